/- What is known of a slice of structs of three cells that came in. No function in sight. -/
import Derived.Test.YtlhkfpenfbakkaaGotGen
set_option linter.unusedVariables false
set_option linter.unusedSimpArgs false
set_option maxRecDepth 100000
namespace Go.Proofs.Ytlhkfpenfbakkaa
open Go.RowKit Go.Joins Go.ChangeShapes Go.WideShapes Go.Deep

/-- a slice of elements of three cells -/
def Val3 (w : World) (a : Option Addr) (xs : List (Value × Value × Value)) : Prop :=
  xs = [] ∨ ∃ B o, a = some ⟨B, o, none⟩ ∧ B < w.heap.size ∧ ∀ i v, xs[i]? = some v → w.cell? ⟨B, o + i * 3, none⟩ = some v.1 ∧ w.cell? ⟨B, o + i * 3 + 1, none⟩ = some v.2.1 ∧ w.cell? ⟨B, o + i * 3 + 2, none⟩ = some v.2.2

theorem Val3.below {w w' : World} {K : Nat} {a : Option Addr} {xs : List (Value × Value × Value)} (h : Val3 w a xs) (hb : Below K w w') (hK : w.heap.size ≤ K) : Val3 w' a xs := by
  rcases h with h | ⟨B, o, e, h1, h2⟩
  · exact .inl h
  · refine .inr ⟨B, o, e, by have := hb.size; omega, fun i v hv => ?_⟩
    obtain ⟨c0, c1, c2⟩ := h2 i v hv
    exact ⟨by rw [hb.cell (p := ⟨B, o + i * 3, none⟩) (by show B < K; omega)]; exact c0, by rw [hb.cell (p := ⟨B, o + i * 3 + 1, none⟩) (by show B < K; omega)]; exact c1, by rw [hb.cell (p := ⟨B, o + i * 3 + 2, none⟩) (by show B < K; omega)]; exact c2⟩

theorem add_addr (b o i : Nat) : (⟨b, o, none⟩ : Addr).add i = ⟨b, o + i, none⟩ := addr_add b o i

section
variable {H : Type} {enc : TypeId × Value → H} {P : Program} {w : World} {base : Nat} {spare : Nat → Bool} {held : Bool}

theorem trod_u8 {t : TypeId} {fuel : Nat} {v : Value} {x : DataW H × List MemPlace} (ht : P.underlying t = some (.int .u8)) (h : DataW.trod enc P w base spare held fuel t [v] = some x) : ∃ n, v = .int .u8 n ∧ 0 ≤ n ∧ n ≤ 255 := by
  obtain ⟨n, e, _, hw⟩ := DataW.trod_int ht h
  have := bounds_u8 hw
  exact ⟨n, by simpa using e, this.1, this.2⟩

/-- a slice of structs of three cells -/
theorem trod_three {t e : TypeId} {f0 f1 f2 : Field} {fuel : Nat} {cs : List Value} {x : DataW H × List MemPlace} {α : Type} [Inhabited α] (g : α → Value × Value × Value) (Q : α → Prop) (ht : P.underlying t = some (.slice e)) (he : P.underlying e = some (.struct #[f0, f1, f2]))
    (hone : oneCellFields P #[f0, f1, f2] = true) (hC : P.cellsOf e = 3)
    (hel : ∀ n v0 v1 v2 y0 y1 y2, DataW.trod enc P w base spare held n f0.type [v0] = some y0 → DataW.trod enc P w base spare held n f1.type [v1] = some y1 → DataW.trod enc P w base spare held n f2.type [v2] = some y2 → ∃ z : α, (v0, v1, v2) = g z ∧ Q z)
    (h : DataW.trod enc P w base spare held fuel t cs = some x) :
    ∃ a cap zs, cs = [.slice a (List.length zs) cap] ∧ zs.length ≤ cap ∧ cap ≤ maxLen ∧ Val3 w a (zs.map g) ∧ (∀ z ∈ zs, Q z) ∧ (a = none → cap = 0) := by
  rcases open_slice ht h with ⟨rfl, _⟩ | ⟨a, len, cap, m, n, D, Pl, rfl, hb, hl, hm, hmm, rfl, hx⟩
  · exact ⟨none, 0, [], rfl, Nat.le_refl _, by simp, .inl rfl, (fun y hy => by cases hy), fun _ => rfl⟩
  · have hlm : len ≤ m := by rw [hmm]; split <;> omega
    have each : ∀ i, i < len → ∃ z : α, w.cell? (a.add (i * 3)) = some (g z).1 ∧ w.cell? (a.add (i * 3 + 1)) = some (g z).2.1 ∧ w.cell? (a.add (i * 3 + 2)) = some (g z).2.2 ∧ Q z := by
      intro i hi
      obtain ⟨cs', g1, g2⟩ := hx i (by omega)
      rw [hC] at g1
      obtain ⟨_, hlen, hcell⟩ := World.cells?_some g1
      obtain ⟨xs, k, hk, hxy, _, hxl, hf⟩ := DataW.trod_struct he g2
      obtain ⟨o0, k0⟩ := hone_of hone 0 f0 rfl
      obtain ⟨o1, k1⟩ := hone_of hone 1 f1 rfl
      obtain ⟨o2, k2⟩ := hone_of hone 2 f2 rfl
      match xs, hxl, cs', hlen with
      | [y0, y1, y2], _, [v0, v1, v2], _ =>
        have q0 := hf 0 f0 rfl
        have q1 := hf 1 f1 rfl
        have q2 := hf 2 f2 rfl
        simp [o0, o1, o2, k0, k1, k2] at q0 q1 q2
        clear g1 g2
        have e0 := hcell 0 (by omega)
        have e1 := hcell 1 (by omega)
        have e2 := hcell 2 (by omega)
        rw [add_add] at e0 e1 e2
        obtain ⟨z, hz, hQ⟩ := hel _ _ _ _ _ _ _ q0 q1 q2
        refine ⟨z, ?_, ?_, ?_, hQ⟩
        · rw [← hz]; simpa using e0
        · rw [← hz]; simpa using e1
        · rw [← hz]; simpa using e2
    obtain ⟨q, hq⟩ := choose_lt each
    have hlen : ((List.range len).map q).length = len := by simp
    refine ⟨some a, cap, (List.range len).map q, by rw [hlen], by rw [hlen]; exact hl, hm, ?_, ?_, fun h => by cases h⟩
    · by_cases hz : len = 0
      · subst hz; exact .inl rfl
      · obtain ⟨e0, _⟩ := hq 0 (by omega)
        rw [Nat.zero_mul] at e0
        have e0' : w.cell? a = some (g (q 0)).1 := e0
        obtain ⟨ea, hlt⟩ := spot_of_cell e0'
        refine .inr ⟨a.block, a.off, by rw [← ea], hlt, fun i v hv => ?_⟩
        have hi : i < len := by
          have := (List.getElem?_eq_some_iff.1 hv).1
          simpa using this
        obtain ⟨c0, c1, c2, _⟩ := hq i hi
        rw [ea, add_addr] at c0 c1 c2
        have : v = g (q i) := by
          simp [hi] at hv
          exact hv.symm
        subst this
        exact ⟨c0, c1, c2⟩
    · intro y hy
      simp only [List.mem_map, List.mem_range] at hy
      obtain ⟨i, hi, rfl⟩ := hy
      exact (hq i hi).2.2.2
end

end Go.Proofs.Ytlhkfpenfbakkaa
