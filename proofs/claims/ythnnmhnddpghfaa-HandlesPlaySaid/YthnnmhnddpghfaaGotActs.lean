/- A list of acts that came in. -/
import Derived.Test.YthnnmhnddpghfaaGotAct
import Derived.Test.YthnnmhnddpghfaaRows
set_option linter.unusedVariables false
set_option linter.unusedSimpArgs false
set_option maxRecDepth 100000
namespace Go.Proofs.Ythnnmhnddpghfaa
open Go.RowKit Go.Joins Go.ChangeShapes Go.WideShapes Go.Deep

/-- an act: its kind, descriptor, number -/
structure Ac where
  k : Int
  fd : Int
  n : Int

def Ac.v (x : Ac) : Value × Value × Value := (.int .u8 x.k, .int .i64 x.fd, .int .i64 x.n)
def Ac.agg (x : Ac) : Value := .agg #[.int .u8 x.k, .int .i64 x.fd, .int .i64 x.n]
instance : Inhabited Ac := ⟨⟨0, 0, 0⟩⟩

theorem got_acts {W : World} {v : Value} (h : Got Try.prog W 22 v) :
    ∃ a cap, ∃ l : List Ac, v = .slice a l.length cap ∧ Val3 W a (l.map Ac.v) ∧ (∀ z ∈ l, 0 ≤ z.k ∧ z.k ≤ 255) := by
  obtain ⟨base, H, enc, d, ps, h1, h2, _⟩ := h
  obtain ⟨a, len, cap, rfl⟩ := okWide_slice Try.underlying22 h1
  obtain ⟨fuel, hf⟩ := h2
  obtain ⟨a', cap', l, e, _, _, hV, hQ, _⟩ := trod_three Ac.v (fun z => 0 ≤ z.k ∧ z.k ≤ 255) Try.underlying22 Try.underlying29 (by kernel_rfl) (by kernel_rfl)
    (fun n v0 v1 v2 y0 y1 y2 q0 q1 q2 => by
      obtain ⟨k, rfl, b0, b1⟩ := trod_u8 Try.underlying5 q0
      obtain ⟨fd, rfl, _⟩ := trod_i64 Try.underlying3 q1
      obtain ⟨m, rfl, _⟩ := trod_i64 Try.underlying3 q2
      exact ⟨⟨k, fd, m⟩, rfl, b0, b1⟩) hf
  simp [Value.cells] at e
  obtain ⟨e1, e2, e3⟩ := e
  subst e1 e3
  exact ⟨a, cap, l, by rw [e2], hV, hQ⟩

end Go.Proofs.Ythnnmhnddpghfaa
