/- Lists of entries, and entries, that came in. -/
import Derived.Test.YtlhkfpenfbakkaaSlD
import Derived.Test.YtlhkfpenfbakkaaRows
set_option linter.unusedVariables false
set_option linter.unusedSimpArgs false
set_option maxRecDepth 100000
namespace Go.Proofs.Ytlhkfpenfbakkaa
open Go.RowKit Go.Joins Go.ChangeShapes Go.WideShapes Go.Deep

section
variable {H : Type} {enc : TypeId × Value → H} {P : Program} {w : World} {base : Nat} {spare : Nat → Bool} {held : Bool}
theorem open_agg2 {r : Reach} {b0 : Nat} {t : TypeId} {f0 f1 : Field} {v : Value} {d : DataW H} {p : List MemPlace} (hs : P.underlying t = some (.struct #[f0, f1])) (hone : oneCellFields P #[f0, f1] = true) (hC : P.cellsOf t = 2)
    (hv : Value.okWide P w r b0 t v) (h : DataW.Trod enc P w base spare held t v d p) :
    ∃ (v0 v1 : Value) (y0 y1 : DataW H × List MemPlace) (n : Nat), v = .agg #[v0, v1] ∧
      DataW.trod enc P w base spare held n f0.type [v0] = some y0 ∧ DataW.trod enc P w base spare held n f1.type [v1] = some y1 := by
  obtain ⟨cs, rfl, hsz⟩ := okWide_struct hs hv
  obtain ⟨l⟩ := cs
  match l, hsz.trans hC with
  | [c0, c1], _ =>
    obtain ⟨fuel, hf⟩ := h
    obtain ⟨xs, n, _, hx, _, hlen, hg⟩ := DataW.trod_struct hs hf
    obtain ⟨o0, k0⟩ := hone_of hone 0 f0 rfl
    obtain ⟨o1, k1⟩ := hone_of hone 1 f1 rfl
    match xs, hlen with
    | [y0, y1], _ =>
      exact ⟨c0, c1, y0, y1, n, rfl, by simpa [Value.cells, o0, k0] using hg 0 f0 rfl, by simpa [Value.cells, o1, k1] using hg 1 f1 rfl⟩
end

theorem got_des {W : World} {v : Value} (h : Got Try.prog W 22 v) :
    ∃ a cap, ∃ l : List De, v = .slice a l.length cap ∧ l.length ≤ cap ∧ cap ≤ maxLen ∧ ValD W a l ∧ (∀ z ∈ l, z.nm.size ≤ maxLen ∧ i64B z.ino) := by
  obtain ⟨base, H, enc, d, ps, h1, h2, _⟩ := h
  obtain ⟨a, len, cap, rfl⟩ := okWide_slice Try.underlying22 h1
  obtain ⟨fuel, hf⟩ := h2
  obtain ⟨a', cap', l, e, h3, h4, hV, hQ, _⟩ := trod_two Try.underlying22 Try.underlying25 (by kernel_rfl) (by kernel_rfl) Try.underlying9 Try.underlying3 hf
  simp [Value.cells] at e
  obtain ⟨e1, e2, e3⟩ := e
  subst e1 e3
  exact ⟨a, cap, l, by rw [e2], h3, h4, hV, hQ⟩

theorem got_de {W : World} {v : Value} (h : Got Try.prog W 25 v) : ∃ d : De, v = d.agg ∧ d.nm.size ≤ maxLen ∧ i64B d.ino := by
  obtain ⟨base, H, enc, d, ps, h1, h2, _⟩ := h
  obtain ⟨v0, v1, y0, y1, n, rfl, g0, g1⟩ := open_agg2 Try.underlying25 (by kernel_rfl) (by kernel_rfl) h1 h2
  obtain ⟨s, rfl, hs⟩ := trod_str Try.underlying9 g0
  obtain ⟨z, rfl, hz⟩ := trod_i64 Try.underlying3 g1
  exact ⟨⟨s, z⟩, rfl, hs, hz⟩

end Go.Proofs.Ytlhkfpenfbakkaa
