/- Slices of entries of a directory: what they lead to; what is known of such a slice that came in. No function in sight. -/
import Derived.Test.YtlhkfpenfbakkaaGotGen
import Derived.Test.YtlhkfpenfbakkaaMem4
import Derived.Test.YtlhkfpenfbakkaaPlainDir
set_option linter.unusedVariables false
set_option linter.unusedSimpArgs false
set_option maxRecDepth 100000
namespace Go.Proofs.Ytlhkfpenfbakkaa
open Go.RowKit Go.Joins Go.ChangeShapes Go.WideShapes Go.Deep

def De.cells (d : De) : List Value := [.string d.nm, .int .i64 d.ino]
def De.agg (d : De) : Value := .agg #[.string d.nm, .int .i64 d.ino]
theorem decells_len (l : List De) : (l.flatMap De.cells).length = l.length * 2 := by
  induction l with
  | nil => rfl
  | cons s r ih => rw [List.flatMap_cons, List.length_append, ih]; simp [De.cells]; omega
theorem decells_get (l : List De) (k : Nat) (x : De) (h : l[k]? = some x) : (l.flatMap De.cells)[k * 2]? = some (.string x.nm) ∧ (l.flatMap De.cells)[k * 2 + 1]? = some (.int .i64 x.ino) := by
  induction l generalizing k with
  | nil => simp at h
  | cons y r ih =>
    rw [List.flatMap_cons]
    cases k with
    | zero =>
      simp at h; subst h
      exact ⟨rfl, rfl⟩
    | succ k =>
      have hh := ih k (by simpa using h)
      have hl : (De.cells y).length = 2 := rfl
      have e : ∀ d, (k + 1) * 2 + d - 2 = k * 2 + d := by intro d; omega
      rw [List.getElem?_append_right (by rw [hl]; omega), List.getElem?_append_right (by rw [hl]; omega), hl, e]
      exact ⟨by have := e 0; simp at this; rw [this]; exact hh.1, hh.2⟩
theorem decells_one (l : List De) : ∀ u ∈ l.flatMap De.cells, u.oneCell' = true := by
  intro u hu
  rw [List.mem_flatMap] at hu
  obtain ⟨d, _, hu⟩ := hu
  simp only [De.cells, List.mem_cons, List.not_mem_nil, or_false] at hu
  rcases hu with rfl | rfl <;> rfl
theorem decells_drop (l : List De) (k : Nat) : (l.flatMap De.cells).drop (k * 2) = (l.drop k).flatMap De.cells := by
  induction l generalizing k with
  | nil => simp
  | cons d r ih =>
    cases k with
    | zero => simp
    | succ k =>
      rw [List.flatMap_cons, List.drop_succ_cons, ← ih k, List.drop_append, show (De.cells d).length = 2 from rfl, List.drop_of_length_le (by rw [show (De.cells d).length = 2 from rfl]; omega), List.nil_append]
      congr 1; omega
theorem decells_take (l : List De) (k : Nat) : (l.flatMap De.cells).take (k * 2) = (l.take k).flatMap De.cells := by
  induction l generalizing k with
  | nil => simp
  | cons d r ih =>
    cases k with
    | zero => simp
    | succ k =>
      rw [List.flatMap_cons, List.take_succ_cons, List.flatMap_cons, ← ih k, List.take_append, show (De.cells d).length = 2 from rfl, List.take_of_length_le (by rw [show (De.cells d).length = 2 from rfl]; omega)]
      congr 2; omega

/-- a slice of entries -/
def ValD (w : World) (a : Option Addr) (l : List De) : Prop :=
  l = [] ∨ ∃ B o, a = some ⟨B, o, none⟩ ∧ B < w.heap.size ∧ ∀ i d, l[i]? = some d → w.cell? ⟨B, o + i * 2, none⟩ = some (.string d.nm) ∧ w.cell? ⟨B, o + i * 2 + 1, none⟩ = some (.int .i64 d.ino)

section
variable {w w' : World} {a : Option Addr} {l : List De}
theorem ValD.below {K : Nat} (h : ValD w a l) (hb : Below K w w') (hK : w.heap.size ≤ K) : ValD w' a l := by
  rcases h with h | ⟨B, o, e, h1, h2⟩
  · exact .inl h
  · refine .inr ⟨B, o, e, by have := hb.size; omega, fun i v hv => ?_⟩
    obtain ⟨c0, c1⟩ := h2 i v hv
    exact ⟨by rw [hb.cell (p := ⟨B, o + i * 2, none⟩) (by show B < K; omega)]; exact c0, by rw [hb.cell (p := ⟨B, o + i * 2 + 1, none⟩) (by show B < K; omega)]; exact c1⟩
theorem ValD.nil : ValD w a [] := .inl rfl
theorem de_cells {k : Nat} {x : De} (h : ValD w a l) (hx : l[k]? = some x) : ∃ B o, a = some ⟨B, o, none⟩ ∧ B < w.heap.size ∧ w.cell? ⟨B, o + k * 2, none⟩ = some (.string x.nm) ∧ w.cell? ⟨B, o + k * 2 + 1, none⟩ = some (.int .i64 x.ino) := by
  rcases h with h | ⟨B, o, e, hb, h⟩
  · have := (List.getElem?_eq_some_iff.1 hx).1
    rw [h] at this
    simp at this
  · obtain ⟨c0, c1⟩ := h k x hx
    exact ⟨B, o, e, hb, c0, c1⟩
theorem valD_row {g : Nat} {rest : List Value} (h : RowAt w g (l.flatMap De.cells ++ rest)) : ValD w (some ⟨g, 0, none⟩) l := by
  refine .inr ⟨g, 0, rfl, h.lt, fun i d hd => ?_⟩
  have hi := (List.getElem?_eq_some_iff.1 hd).1
  obtain ⟨a0, a1⟩ := decells_get l i d hd
  have hl := decells_len l
  refine ⟨?_, ?_⟩
  · rw [Nat.zero_add, h.cell _ (by rw [List.length_append]; omega), List.getElem?_append_left (by omega)]; exact a0
  · rw [Nat.zero_add, h.cell _ (by rw [List.length_append]; omega), List.getElem?_append_left (by omega)]; exact a1
/-- a slice's head, and its tail -/
theorem ValD.take (h : ValD w a l) (k : Nat) : ValD w a (l.take k) := by
  rcases h with rfl | ⟨B, o, e, hb, h⟩
  · exact .inl (by simp)
  · refine .inr ⟨B, o, e, hb, fun i d hd => h i d ?_⟩
    rw [List.getElem?_take] at hd
    split at hd
    · exact hd
    · cases hd

/-- a slice of entries in new memory -/
def NewD (w : World) (base : Nat) (a : Option Addr) (l : List De) : Prop := l = [] ∨ ∃ g, a = some ⟨g, 0, none⟩ ∧ base ≤ g ∧ RowAt w g (l.flatMap De.cells)
theorem NewD.vals {base : Nat} (h : NewD w base a l) : ValD w a l := by
  rcases h with rfl | ⟨g, rfl, _, hr⟩
  · exact .inl rfl
  · exact valD_row (rest := []) (by rw [List.append_nil]; exact hr)
theorem NewD.below {base K : Nat} (h : NewD w base a l) (hb : Below K w w') (hK : w.heap.size ≤ K) : NewD w' base a l := by
  rcases h with rfl | ⟨g, rfl, h1, hr⟩
  · exact .inl rfl
  · exact .inr ⟨g, rfl, h1, hr.below hb (by have := hr.lt; omega)⟩
theorem NewD.less {base base' : Nat} (h : NewD w base a l) (hp : base' ≤ base) : NewD w base' a l := by
  rcases h with rfl | ⟨g, rfl, h1, hr⟩
  · exact .inl rfl
  · exact .inr ⟨g, rfl, by omega, hr⟩
theorem own_newd {base : Nat} {e : TypeId} {v : Value} {n : Nat} (h : w.ownsRow base e 2 v n (l.flatMap De.cells)) : ∃ a cap, v = .slice a n cap ∧ NewD w base a l ∧ n = l.length ∧ n ≤ cap := by
  have hl : n = l.length := by have := h.1; rw [decells_len] at this; omega
  rcases h.2 with ⟨rfl, h0⟩ | ⟨g, cap, cur, rfl, hg, hb, hc, _⟩
  · refine ⟨none, 0, by rw [h0], .inl ?_, hl, by omega⟩
    exact List.length_eq_zero_iff.1 (by omega)
  · exact ⟨_, cap, rfl, .inr ⟨g, rfl, hg, rowAt_own h h.1 (h.lt g rfl).2⟩, hl, hc⟩
end

section
variable {H : Type} {enc : TypeId × Value → H} {P : Program} {w : World} {base : Nat} {spare : Nat → Bool} {held : Bool}

theorem trod_str {t : TypeId} {fuel : Nat} {v : Value} {x : DataW H × List MemPlace} (ht : P.underlying t = some .string) (h : DataW.trod enc P w base spare held fuel t [v] = some x) : ∃ s : ByteArray, v = .string s ∧ s.size ≤ maxLen := by
  obtain ⟨s, e, _, hs⟩ := DataW.trod_string ht h
  exact ⟨s, by simpa using e, hs⟩

theorem trod_two {t e : TypeId} {f0 f1 : Field} {fuel : Nat} {cs : List Value} {x : DataW H × List MemPlace} (ht : P.underlying t = some (.slice e)) (he : P.underlying e = some (.struct #[f0, f1]))
    (hone : oneCellFields P #[f0, f1] = true) (hC : P.cellsOf e = 2) (h0 : P.underlying f0.type = some .string) (h1 : P.underlying f1.type = some (.int .i64))
    (h : DataW.trod enc P w base spare held fuel t cs = some x) :
    ∃ a cap, ∃ zs : List De, cs = [.slice a (List.length zs) cap] ∧ zs.length ≤ cap ∧ cap ≤ maxLen ∧ ValD w a zs ∧ (∀ z ∈ zs, z.nm.size ≤ maxLen ∧ i64B z.ino) ∧ (a = none → cap = 0) := by
  rcases open_slice ht h with ⟨rfl, _⟩ | ⟨a, len, cap, m, n, D, Pl, rfl, hb, hl, hm, hmm, rfl, hx⟩
  · exact ⟨none, 0, [], rfl, Nat.le_refl _, by simp, .inl rfl, (fun y hy => by cases hy), fun _ => rfl⟩
  · have hlm : len ≤ m := by rw [hmm]; split <;> omega
    have each : ∀ i, i < len → ∃ z : De, w.cell? (a.add (i * 2)) = some (.string z.nm) ∧ w.cell? (a.add (i * 2 + 1)) = some (.int .i64 z.ino) ∧ z.nm.size ≤ maxLen ∧ i64B z.ino := by
      intro i hi
      obtain ⟨cs', g1, g2⟩ := hx i (by omega)
      rw [hC] at g1
      obtain ⟨_, hlen, hcell⟩ := World.cells?_some g1
      obtain ⟨xs, k, hk, hxy, _, hxl, hf⟩ := DataW.trod_struct he g2
      obtain ⟨o0, k0⟩ := hone_of hone 0 f0 rfl
      obtain ⟨o1, k1⟩ := hone_of hone 1 f1 rfl
      match xs, hxl, cs', hlen with
      | [y0, y1], _, [v0, v1], _ =>
        have q0 := hf 0 f0 rfl
        have q1 := hf 1 f1 rfl
        simp [o0, o1, k0, k1] at q0 q1
        clear g1 g2
        have e0 := hcell 0 (by omega)
        have e1 := hcell 1 (by omega)
        rw [add_add] at e0 e1
        obtain ⟨s, rfl, hs⟩ := trod_str h0 q0
        obtain ⟨z, rfl, hz⟩ := trod_i64 h1 q1
        exact ⟨⟨s, z⟩, by simpa using e0, by simpa using e1, hs, hz⟩
    obtain ⟨q, hq⟩ := choose_lt each
    have hlen : ((List.range len).map q).length = len := by simp
    refine ⟨some a, cap, (List.range len).map q, by rw [hlen], by rw [hlen]; exact hl, hm, ?_, ?_, fun h => by cases h⟩
    · by_cases hz : len = 0
      · subst hz; exact .inl rfl
      · obtain ⟨e0, _⟩ := hq 0 (by omega)
        rw [Nat.zero_mul] at e0
        have e0' : w.cell? a = some (.string (q 0).nm) := e0
        obtain ⟨ea, hlt⟩ := spot_of_cell e0'
        refine .inr ⟨a.block, a.off, by rw [← ea], hlt, fun i v hv => ?_⟩
        have hi : i < len := by
          have := (List.getElem?_eq_some_iff.1 hv).1
          simpa using this
        obtain ⟨c0, c1, _⟩ := hq i hi
        rw [ea, addr_add] at c0 c1
        have : v = q i := by
          simp [hi] at hv
          exact hv.symm
        subst this
        exact ⟨c0, c1⟩
    · intro y hy
      simp only [List.mem_map, List.mem_range] at hy
      obtain ⟨i, hi, rfl⟩ := hy
      exact (hq i hi).2.2
end

end Go.Proofs.Ytlhkfpenfbakkaa
