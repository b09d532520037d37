/- The document's table of descriptors as its own: the header's block, and an owned row of elements behind it. -/
import Derived.Test.YthnnmhnddpghfaaHanRef3
set_option linter.unusedVariables false
set_option linter.unusedSimpArgs false
set_option maxRecDepth 100000
namespace Go.Proofs.Ythnnmhnddpghfaa
open Go.RowKit Go.Joins

def Rf.cells (x : Rf) : List Value := [.int .i64 x.f, .int .i64 x.n, .int .i64 x.a]
theorem rfcells_len (l : List Rf) : (l.flatMap Rf.cells).length = l.length * 3 := by
  induction l with
  | nil => rfl
  | cons s r ih => rw [List.flatMap_cons, List.length_append, ih]; simp [Rf.cells]; omega
theorem rfcells_get (l : List Rf) (k : Nat) (x : Rf) (h : l[k]? = some x) : (l.flatMap Rf.cells)[k * 3]? = some (.int .i64 x.f) ∧ (l.flatMap Rf.cells)[k * 3 + 1]? = some (.int .i64 x.n) ∧ (l.flatMap Rf.cells)[k * 3 + 2]? = some (.int .i64 x.a) := by
  induction l generalizing k with
  | nil => simp at h
  | cons y r ih =>
    rw [List.flatMap_cons]
    cases k with
    | zero =>
      simp at h; subst h
      exact ⟨rfl, rfl, rfl⟩
    | succ k =>
      have hh := ih k (by simpa using h)
      have hl : (Rf.cells y).length = 3 := rfl
      have e : ∀ d, (k + 1) * 3 + d - 3 = k * 3 + d := by intro d; omega
      rw [List.getElem?_append_right (by rw [hl]; omega), List.getElem?_append_right (by rw [hl]; omega), List.getElem?_append_right (by rw [hl]; omega), hl, e, e]
      exact ⟨by have := e 0; simp at this; rw [this]; exact hh.1, hh.2.1, hh.2.2⟩

/-- the document's table at block R, whose elements are its own row above base -/
def RO (W : World) (R base : Nat) (l : List Rf) : Prop := R < base ∧ ∃ v, RowAt W R [v] ∧ W.ownsRow base 64 3 v l.length (l.flatMap Rf.cells)

theorem RO.rt {W : World} {R base : Nat} {l : List Rf} (h : RO W R base l) : RT W R l := by
  obtain ⟨hR, v, h1, h2⟩ := h
  have hc := h1.cell 0 (by simp)
  rcases h2.2 with ⟨rfl, h0⟩ | ⟨g, cap, cur, rfl, hg, hb, _⟩
  · have : l = [] := List.length_eq_zero_iff.1 h0
    subst this
    exact ⟨none, 0, hc, .inl rfl⟩
  · have hlt : g < W.heap.size := (Array.getElem?_eq_some_iff.1 hb).1
    have hr := rowAt_own h2 h2.1 hlt
    refine ⟨some ⟨g, 0, none⟩, cap, hc, .inr ⟨g, 0, rfl, hlt, fun i u hu => ?_⟩⟩
    rw [List.getElem?_map] at hu
    cases hx : l[i]? with
    | none => rw [hx] at hu; cases hu
    | some x =>
      rw [hx] at hu
      injection hu with hu
      subst hu
      have hi := (List.getElem?_eq_some_iff.1 hx).1
      have hl := rfcells_len l
      obtain ⟨a0, a1, a2⟩ := rfcells_get l i x hx
      refine ⟨?_, ?_, ?_⟩
      · rw [Nat.zero_add, hr.cell _ (by omega)]; exact a0
      · rw [Nat.zero_add, hr.cell _ (by omega)]; exact a1
      · rw [Nat.zero_add, hr.cell _ (by omega)]; exact a2

end Go.Proofs.Ythnnmhnddpghfaa
