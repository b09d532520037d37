/- What is known of an argument: a list of entries; a list that is nil has no room. -/
import Derived.Test.YtlhkfpenfbakkaaGotDes
set_option linter.unusedVariables false
set_option linter.unusedSimpArgs false
set_option maxRecDepth 100000
namespace Go.Proofs.Ytlhkfpenfbakkaa
open Go.RowKit Go.Joins Go.ChangeShapes Go.WideShapes Go.Deep

theorem got_desN {W : World} {v : Value} (h : Got Try.prog W 22 v) :
    ∃ a cap, ∃ l : List De, v = .slice a l.length cap ∧ l.length ≤ cap ∧ cap ≤ maxLen ∧ ValD W a l ∧ (∀ z ∈ l, z.nm.size ≤ maxLen ∧ i64B z.ino) ∧ (a = none → cap = 0) := by
  obtain ⟨base, H, enc, d, ps, h1, h2, _⟩ := h
  obtain ⟨a, len, cap, rfl⟩ := okWide_slice Try.underlying22 h1
  obtain ⟨fuel, hf⟩ := h2
  obtain ⟨a', cap', l, e, h3, h4, hV, hQ, hn⟩ := trod_two Try.underlying22 Try.underlying25 (by kernel_rfl) (by kernel_rfl) Try.underlying9 Try.underlying3 hf
  simp [Value.cells] at e
  obtain ⟨e1, e2, e3⟩ := e
  subst e1 e3
  exact ⟨a, cap, l, by rw [e2], h3, h4, hV, hQ, hn⟩

end Go.Proofs.Ytlhkfpenfbakkaa
