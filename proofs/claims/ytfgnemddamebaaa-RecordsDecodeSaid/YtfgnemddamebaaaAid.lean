/- Small aids for walks: cells of blocks laid ahead of a call. -/
import Derived.Test.YtfgnemddamebaaaFrame
import Derived.Lib.SmallJoins
set_option linter.unusedVariables false
namespace Go.Proofs.Ytfgnemddamebaaa
open Go Go.RowKit Go.Joins

section
variable {w w1 : World} {C D : Array Value} {T U : TypeId} {v : Value}

theorem new_cell_a (hb : Below ((w.alloc (.cells C T)).alloc (.cells D U)).heap.size ((w.alloc (.cells C T)).alloc (.cells D U)) w1) (i : Nat) (h : C[i]? = some v) : w1.cell? ⟨w.heap.size, i, none⟩ = some v := by
  rw [hb.cell (p := ⟨w.heap.size, i, none⟩) (by simp; omega), World.cell?_alloc_old _ _ _ (by simp), World.cell?_alloc_new]
  exact h

theorem new_cell_b (hb : Below ((w.alloc (.cells C T)).alloc (.cells D U)).heap.size ((w.alloc (.cells C T)).alloc (.cells D U)) w1) (i : Nat) (h : D[i]? = some v) : w1.cell? ⟨w.heap.size + 1, i, none⟩ = some v := by
  rw [hb.cell (p := ⟨w.heap.size + 1, i, none⟩) (by simp)]
  have := World.cell?_alloc_new (w := w.alloc (.cells C T)) D U i
  simp only [World.size_alloc] at this
  rw [this]
  exact h
end

/-- a chain of worlds, each below the last one's heap -/
theorem below_chain {B : Nat} {w a b : World} (h : Below B w a) (hb : Below a.heap.size a b) (hB : B ≤ a.heap.size) : Below B w b := h.trans (below_le hb hB)

end Go.Proofs.Ytfgnemddamebaaa
