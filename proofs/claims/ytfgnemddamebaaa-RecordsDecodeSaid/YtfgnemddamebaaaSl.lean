/- Slices whose elements are one cell: what they lead to. No function in sight. -/
import Derived.Test.YtfgnemddamebaaaMem3
import Derived.Test.YtfgnemddamebaaaFrame
import Derived.Deep.Slices
import Derived.Deep.Fields
import Derived.ChangeSame
set_option linter.unusedVariables false
set_option linter.unusedSimpArgs false
namespace Go.Proofs.Ytfgnemddamebaaa
open Go Go.RowKit Go.Joins Go.ChangeShapes Go.WideShapes Go.Deep

/-- a slice at an address holds these cells -/
def ValAt (w : World) (B o : Nat) (vs : List Value) : Prop := B < w.heap.size ∧ ∀ i u, vs[i]? = some u → w.cell? ⟨B, o + i, none⟩ = some u
/-- a slice holds these cells -/
def ValS (w : World) (a : Option Addr) (vs : List Value) : Prop := vs = [] ∨ ∃ B o, a = some ⟨B, o, none⟩ ∧ ValAt w B o vs

section
variable {w w' : World} {a : Option Addr} {vs : List Value} {B o : Nat}

theorem ValAt.below {K : Nat} (h : ValAt w B o vs) (hb : Below K w w') (hK : B < K) : ValAt w' B o vs := by
  have hs : w'.heap[B]? = w.heap[B]? := hb.block B hK
  refine ⟨by have := h.1; have := hb.size; omega, fun i u hu => ?_⟩
  have := h.2 i u hu
  unfold World.cell? at *
  simp only [hs]
  exact this

theorem ValS.below {K : Nat} (h : ValS w a vs) (hb : Below K w w') (hK : w.heap.size ≤ K) : ValS w' a vs := by
  rcases h with rfl | ⟨B, o, rfl, h⟩
  · exact .inl rfl
  · exact .inr ⟨B, o, rfl, h.below hb (by have := h.1; omega)⟩
theorem ValS.drew (h : ValS w a vs) : ValS w.drew a vs := h
theorem ValAt.drew (h : ValAt w B o vs) : ValAt w.drew B o vs := h
theorem ValS.alloc (h : ValS w a vs) (ob : Obj) : ValS (w.alloc ob) a vs := h.below ((Below.refl _ _).alloc (Nat.le_refl _) ob) (Nat.le_refl _)
theorem ValAt.alloc (h : ValAt w B o vs) (ob : Obj) : ValAt (w.alloc ob) B o vs := h.below ((Below.refl _ _).alloc (Nat.le_refl _) ob) h.1
theorem ValS.nil : ValS w a [] := .inl rfl

theorem valAt_row {g : Nat} (h : RowAt w g vs) : ValAt w g 0 vs := by
  refine ⟨h.lt, fun i u hu => ?_⟩
  have hl : i < vs.length := (List.getElem?_eq_some_iff.1 hu).1
  rw [Nat.zero_add, h.cell i hl, hu]

/-- a slice of new memory that holds these cells -/
def NewS (w : World) (base : Nat) (a : Option Addr) (vs : List Value) : Prop := vs = [] ∨ ∃ g, a = some ⟨g, 0, none⟩ ∧ base ≤ g ∧ RowAt w g vs
theorem NewS.vals {base : Nat} (h : NewS w base a vs) : ValS w a vs := by
  rcases h with rfl | ⟨g, rfl, _, hr⟩
  · exact .inl rfl
  · exact .inr ⟨g, 0, rfl, valAt_row hr⟩
theorem NewS.below {base K : Nat} (h : NewS w base a vs) (hb : Below K w w') (hK : w.heap.size ≤ K) : NewS w' base a vs := by
  rcases h with rfl | ⟨g, rfl, h1, hr⟩
  · exact .inl rfl
  · exact .inr ⟨g, rfl, h1, hr.below hb (by have := hr.lt; omega)⟩
theorem NewS.other {base : Nat} (h : NewS w base a vs) (p : Addr) (v : Value) (hp : p.block < base) : NewS (w.setCell p v) base a vs := by
  rcases h with rfl | ⟨g, rfl, h1, hr⟩
  · exact .inl rfl
  · exact .inr ⟨g, rfl, h1, hr.other _ _ (by omega)⟩
theorem NewS.less {base base' : Nat} (h : NewS w base a vs) (hp : base' ≤ base) : NewS w base' a vs := by
  rcases h with rfl | ⟨g, rfl, h1, hr⟩
  · exact .inl rfl
  · exact .inr ⟨g, rfl, by omega, hr⟩

/-- an owned slice whose elements are one cell -/
theorem own_news {base : Nat} {e : TypeId} {v : Value} {n : Nat} (h : w.ownsRow base e 1 v n vs) : ∃ a cap, v = .slice a n cap ∧ NewS w base a vs ∧ n = vs.length := by
  have hl : n = vs.length := by have := h.1; omega
  rcases h.2 with ⟨rfl, h0⟩ | ⟨g, cap, cur, rfl, hg, _⟩
  · refine ⟨none, 0, by rw [h0], .inl ?_, hl⟩
    exact List.length_eq_zero_iff.1 (by omega)
  · exact ⟨_, cap, rfl, .inr ⟨g, rfl, hg, rowAt_own h h.1 (h.lt g rfl).2⟩, hl⟩
end

theorem addr_add (b o i : Nat) : (⟨b, o, none⟩ : Addr).add i = ⟨b, o + i, none⟩ := by
  unfold Addr.add
  by_cases c : i = 0
  · subst c; rfl
  · simp [c]

theorem vals_news {w : World} {ad : Addr} {vs : List Value} (h : ValS w (some ad) vs) : ∀ j u, vs[j]? = some u → w.cell? (ad.add j) = some u := by
  rcases h with rfl | ⟨B, o, e, h⟩
  · intro j u hj; cases hj
  · injection e with e
    subst e
    intro j u hj
    rw [addr_add]
    exact h.2 j u hj

/-- opening: a slice whose elements are one cell each, each of a kind -/
theorem trod_vals {H : Type} {enc : TypeId × Value → H} {P : Program} {w : World} {base : Nat} {spare : Nat → Bool} {held : Bool} {α : Type} [Inhabited α] {t e : TypeId} {fuel : Nat} {cs : List Value} {x : DataW H × List MemPlace} (f : α → Value) (Q : α → Prop)
    (ht : P.underlying t = some (.slice e)) (hC : P.cellsOf e = 1)
    (hel : ∀ n v y, DataW.trod enc P w base spare held n e [v] = some y → ∃ z : α, v = f z ∧ Q z)
    (h : DataW.trod enc P w base spare held fuel t cs = some x) :
    ∃ a cap zs, cs = [.slice a (List.length zs) cap] ∧ zs.length ≤ cap ∧ cap ≤ maxLen ∧ ValS w a (zs.map f) ∧ (∀ z ∈ zs, Q z) ∧ (a = none → cap = 0) := by
  rcases open_slice1 ht hC h with ⟨rfl, _⟩ | ⟨a, len, cap, m, n, V, D, Pl, rfl, hb, hl, hm, hmm, rfl, hx⟩
  · exact ⟨none, 0, [], rfl, Nat.le_refl _, by simp, .inl rfl, (fun z hz => by cases hz), fun _ => rfl⟩
  · have hlm : len ≤ m := by rw [hmm]; split <;> omega
    have each : ∀ i, i < len → ∃ z : α, V i = f z ∧ Q z := fun i hi => hel n (V i) _ (hx i (by omega)).2
    obtain ⟨q, hq⟩ := choose_lt each
    have hlen : ((List.range len).map q).length = len := by simp
    refine ⟨some a, cap, (List.range len).map q, by rw [hlen], by rw [hlen]; exact hl, hm, ?_, ?_, fun h => by cases h⟩
    · by_cases hz : len = 0
      · subst hz; exact .inl rfl
      · obtain ⟨e0, _⟩ := hx 0 (by omega)
        have e0' : w.cell? a = some (V 0) := e0
        have ha : a = ⟨a.block, a.off, none⟩ ∧ a.block < w.heap.size := by
          obtain ⟨b, o, sp⟩ := a
          unfold World.cell? at e0'
          have hl : b < w.heap.size := by
            rcases Nat.lt_or_ge b w.heap.size with h' | h'
            · exact h'
            · simp [Array.getElem?_eq_none h'] at e0'
          refine ⟨?_, hl⟩
          cases sp with
          | none => rfl
          | some s =>
            cases hh : w.heap[b]? with
            | none => simp [hh] at e0'
            | some o' => cases o' <;> simp [hh] at e0'
        refine .inr ⟨a.block, a.off, by rw [← ha.1], ha.2, fun i u hu => ?_⟩
        have hi : i < len := by
          have := (List.getElem?_eq_some_iff.1 hu).1
          simpa using this
        have hc := (hx i (by omega)).1
        rw [ha.1, addr_add] at hc
        rw [hc, (hq i hi).1]
        rw [← hu]
        simp [hi]
    · intro z hz
      simp only [List.mem_map, List.mem_range] at hz
      obtain ⟨i, hi, rfl⟩ := hz
      exact (hq i hi).2

end Go.Proofs.Ytfgnemddamebaaa
