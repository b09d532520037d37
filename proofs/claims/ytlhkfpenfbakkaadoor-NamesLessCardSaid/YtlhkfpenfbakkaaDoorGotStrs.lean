/- What is known of a list of texts that came in. -/
import Derived.Test.YtlhkfpenfbakkaaDoorGotGen
import Derived.Test.YtlhkfpenfbakkaaDoorNamWalks
set_option linter.unusedVariables false
set_option linter.unusedSimpArgs false
set_option maxRecDepth 100000
namespace Go.Proofs.YtlhkfpenfbakkaaDoor
open Go.RowKit Go.Joins Go.ChangeShapes Go.WideShapes Go.Deep

theorem trod_text {H : Type} {enc : TypeId × Value → H} {P : Program} {w : World} {base : Nat} {spare : Nat → Bool} {held : Bool} {t : TypeId} {fuel : Nat} {v : Value} {x : DataW H × List MemPlace} (ht : P.underlying t = some .string) (h : DataW.trod enc P w base spare held fuel t [v] = some x) : ∃ s : ByteArray, v = .string s ∧ s.size ≤ maxLen := by
  obtain ⟨s, e, _, hs⟩ := DataW.trod_string ht h
  exact ⟨s, by simpa using e, hs⟩

theorem got_strs {W : World} {v : Value} (h : Got Tryd.prog W 22 v) :
    ∃ a cap, ∃ l : List ByteArray, v = .slice a l.length cap ∧ l.length ≤ cap ∧ cap ≤ maxLen ∧ ValS W a (strs l) ∧ (∀ z ∈ l, z.size ≤ maxLen) ∧ (a = none → cap = 0) := by
  obtain ⟨base, H, enc, d, ps, h1, h2, _⟩ := h
  obtain ⟨a, len, cap, rfl⟩ := okWide_slice Tryd.underlying22 h1
  obtain ⟨fuel, hf⟩ := h2
  obtain ⟨a', cap', l, e, h3, h4, hV, hQ, hn⟩ := trod_vals Value.string (fun s : ByteArray => s.size ≤ maxLen) Tryd.underlying22 (by kernel_rfl) (fun n v y hy => trod_text Tryd.underlying9 hy) hf
  simp [Value.cells] at e
  obtain ⟨e1, e2, e3⟩ := e
  subst e1 e3
  exact ⟨a, cap, l, by rw [e2], h3, h4, hV, hQ, hn⟩

end Go.Proofs.YtlhkfpenfbakkaaDoor
