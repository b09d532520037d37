/- Walks: a clone of a table of descriptors. -/
import Derived.Test.YthnnmhnddpghfaaHanWalks6
import Derived.Deep.WholeRow
set_option linter.unusedVariables false
set_option linter.unusedSimpArgs false
set_option maxRecDepth 100000
namespace Go.Proofs.Ythnnmhnddpghfaa
open Go.RowKit Go.Joins Go.Sort

theorem info_tab : (Try.prog.info? 54).map (·.size) = some 49 := by kernel_rfl

set_option maxHeartbeats 4000000 in
theorem hclone (K : Nat) (l : List Sl) (w : World) (h : TabAt w K true l) : Calls Try.prog 25 #[.pointer (some ⟨K, 0, none⟩)] w fun e w' => e = .returned (.pointer (some ⟨w.heap.size, 0, none⟩)) ∧ TabAt w' w.heap.size true l ∧ Below w.heap.size w w' := by
  have HN := Lib.hid (hnone_row K true w h.head)
  have HL := Lib.hid h.1
  have hsz : Hid ((Try.prog.info? 54).map (·.size) = some (tcells true l).length) := by
    show _ = _
    rw [info_tab, tcells_len, h.1]
  have HR : Hid (w.rangeAt K 0 (tcells true l)) := by
    intro j v hv
    have hj := (List.getElem?_eq_some_iff.1 hv).1
    have := h.2.cell j hj
    rw [Nat.zero_add, this]
    exact hv
  have hlt := h.lt
  have hlen : (tcells true l).length = 49 := by rw [tcells_len, h.1]
  have hone : (tcells true l).toArray.all (·.oneCell') = true := by
    rw [← Array.all_toList, List.all_eq_true]
    intro v hv
    rw [tcells, List.mem_cons, List.mem_flatMap] at hv
    rcases hv with rfl | ⟨s, _, hv⟩
    · rfl
    · simp only [scells, List.mem_cons, List.not_mem_nil, or_false] at hv
      rcases hv with rfl | rfl | rfl <;> rfl
  have hst : (storeCells ⟨w.heap.size, 0, none⟩ (tcells true l) 0).run Try.prog (w.alloc (.cells #[.bool false, .bool false, .int .i64 0, .int .i64 0, .bool false, .int .i64 0, .int .i64 0, .bool false, .int .i64 0, .int .i64 0, .bool false, .int .i64 0, .int .i64 0, .bool false, .int .i64 0, .int .i64 0, .bool false, .int .i64 0, .int .i64 0, .bool false, .int .i64 0, .int .i64 0, .bool false, .int .i64 0, .int .i64 0, .bool false, .int .i64 0, .int .i64 0, .bool false, .int .i64 0, .int .i64 0, .bool false, .int .i64 0, .int .i64 0, .bool false, .int .i64 0, .int .i64 0, .bool false, .int .i64 0, .int .i64 0, .bool false, .int .i64 0, .int .i64 0, .bool false, .int .i64 0, .int .i64 0, .bool false, .int .i64 0, .int .i64 0] 54)) = .ok () (w.alloc (.cells (tcells true l).toArray 54)) :=
    Go.run_storeCells_new w _ #[.bool false, .bool false, .int .i64 0, .int .i64 0, .bool false, .int .i64 0, .int .i64 0, .bool false, .int .i64 0, .int .i64 0, .bool false, .int .i64 0, .int .i64 0, .bool false, .int .i64 0, .int .i64 0, .bool false, .int .i64 0, .int .i64 0, .bool false, .int .i64 0, .int .i64 0, .bool false, .int .i64 0, .int .i64 0, .bool false, .int .i64 0, .int .i64 0, .bool false, .int .i64 0, .int .i64 0, .bool false, .int .i64 0, .int .i64 0, .bool false, .int .i64 0, .int .i64 0, .bool false, .int .i64 0, .int .i64 0, .bool false, .int .i64 0, .int .i64 0, .bool false, .int .i64 0, .int .i64 0, .bool false, .int .i64 0, .int .i64 0] (tcells true l).toArray (by rw [info_tab]; simp [hlen]) (by simp [hlen]) hone
  clear h hone
  go_enter Try.func25, Try.ntmps25
  go_wp2_with fail
  refine HN.out.mono ?_
  rintro e w1 ⟨rfl, rfl⟩
  go_wp2_with (refine wpList_load_mid rfl _ _ rfl K 0 (by rfl) (tcells true l) _ HR.out Try.underlying54 rfl hsz.out ?_)
  go_ret
  exact ⟨rfl, ⟨HL.out, by have := rowAt_alloc w (tcells true l).toArray 54; exact this⟩, (Below.refl _ _).alloc (Nat.le_refl _) _⟩

end Go.Proofs.Ythnnmhnddpghfaa
