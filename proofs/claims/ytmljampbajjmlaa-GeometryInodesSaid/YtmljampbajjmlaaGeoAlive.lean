/- Walks: asking a layout. -/
import Derived.Test.YtmljampbajjmlaaRows
import Derived.Test.YtmljampbajjmlaaPlainGeo
import Derived.Test.YtmljampbajjmlaaMem
import Derived.Test.YtmljampbajjmlaaAid
import Derived.Test.YtmljampbajjmlaaGeoWalks5
import Derived.WalkKit
import Derived.WalkSpells
import Derived.WalkLawsBesides
import Derived.Handy
import Derived.BigQuiet
import Derived.Deep.QuietTactic
set_option linter.unusedVariables false
set_option linter.unusedSimpArgs false
namespace Go.Proofs.Ytmljampbajjmlaa
open Go.RowKit Go.Joins


/-- a layout in memory -/
theorem geo_cells {w : World} {k : Nat} {b l m la ma ml ta tl da : Int} (h : RowAt w k [.int .i64 b, .int .i64 l, .int .i64 m, .int .i64 la, .int .i64 ma, .int .i64 ml, .int .i64 ta, .int .i64 tl, .int .i64 da]) :
    w.cell? ⟨k, 0, none⟩ = some (.int .i64 b) ∧ w.cell? ⟨k, 1, none⟩ = some (.int .i64 l) ∧ w.cell? ⟨k, 2, none⟩ = some (.int .i64 m) ∧ w.cell? ⟨k, 3, none⟩ = some (.int .i64 la) ∧ w.cell? ⟨k, 4, none⟩ = some (.int .i64 ma) ∧ w.cell? ⟨k, 5, none⟩ = some (.int .i64 ml) ∧ w.cell? ⟨k, 6, none⟩ = some (.int .i64 ta) ∧ w.cell? ⟨k, 7, none⟩ = some (.int .i64 tl) ∧ w.cell? ⟨k, 8, none⟩ = some (.int .i64 da) :=
  ⟨h.cell 0 (by simp), h.cell 1 (by simp), h.cell 2 (by simp), h.cell 3 (by simp), h.cell 4 (by simp), h.cell 5 (by simp), h.cell 6 (by simp), h.cell 7 (by simp), h.cell 8 (by simp)⟩

theorem geo_256 : geoOk 256 128 8 = true ∧ geoOk 256 128 9 = false ∧ gMap 256 = 1 ∧ gData 256 128 8 = 134 ∧ mayB 256 128 8 1 129 1 130 4 134 = true ∧ whereV 256 128 8 1 129 1 130 4 134 134 = 4 ∧ whereV 256 128 8 1 129 1 130 4 134 256 = -1 := by decide +kernel

set_option maxHeartbeats 2000000 in
theorem alive05 (w : World) : Calls Try.prog 26 #[] w fun e w' => e = .returned (.bool true) ∧ Below w.heap.size w w' := by
  obtain ⟨g1, g2, g3, g4, g5, g6, g7⟩ := geo_256
  have C1 := fun W => by have := of_yes 256 128 8 W g1; rw [g3, g4] at this; exact this
  have HC1 : Hid (∀ W, Calls Try.prog 24 #[.int .i64 256, .int .i64 128, .int .i64 8] W fun e w' => e = .returned (.tuple #[gv 256 128 8 1 129 1 130 4 134, .int .i64 0]) ∧ Below W.heap.size W w') := C1
  have HC2 := Lib.hid (fun W => of_no 256 128 9 W g2)
  have HC3 : Hid (∀ W, Calls Try.prog 27 #[gv 256 128 8 1 129 1 130 4 134, .int .i64 3] W fun e w' => e = .returned (.tuple #[.int .i64 131, .int .i64 64, .int .i64 0]) ∧ Below W.heap.size W w') := fun W => inode_in _ _ _ _ _ _ _ _ _ 3 W g5 (by decide) (by decide)
  have HC4 : Hid (∀ W, Calls Try.prog 27 #[gv 256 128 8 1 129 1 130 4 134, .int .i64 8] W fun e w' => e = .returned (.tuple #[.int .i64 0, .int .i64 0, .int .i64 4]) ∧ Below W.heap.size W w') := fun W => inode_none _ _ _ _ _ _ _ _ _ 8 W g5 (by decide)
  have HC5 : Hid (∀ W, Calls Try.prog 31 #[gv 256 128 8 1 129 1 130 4 134, .int .i64 134] W fun e w' => e = .returned (.int .i64 4) ∧ Below W.heap.size W w') := fun W => by have := where_any 256 128 8 1 129 1 130 4 134 134 W; rwa [g6] at this
  have HC6 : Hid (∀ W, Calls Try.prog 31 #[gv 256 128 8 1 129 1 130 4 134, .int .i64 256] W fun e w' => e = .returned (.int .i64 (-1)) ∧ Below W.heap.size W w') := fun W => by have := where_any 256 128 8 1 129 1 130 4 134 256 W; rwa [g7] at this
  have HC7 : Hid (∀ W, Calls Try.prog 29 #[gv 256 128 8 1 129 1 130 4 134] W (OneRun W 134)) := fun W => fixed_yes _ _ _ _ _ _ _ _ _ W g5
  clear g1 g2 g3 g4 g5 g6 g7 C1
  go_enter Try.func26, Try.ntmps26
  go_wp2_with fail
  refine (HC1.out _).mono ?_
  rintro e w1 ⟨rfl, B1⟩
  go_wp2_with fail
  refine (HC2.out _).mono ?_
  rintro e w2 ⟨rfl, hb2⟩
  have B2 := below_chain (B1.alloc B1.size _) hb2 (B1.alloc B1.size _).size
  have hr := (rowAt_alloc w1 #[.int .i64 256, .int .i64 128, .int .i64 8, .int .i64 1, .int .i64 129, .int .i64 1, .int .i64 130, .int .i64 4, .int .i64 134] 42).below hb2 (by simp)
  have hl := hr.lt
  obtain ⟨c0, c1, c2, c3, c4, c5, c6, c7, c8⟩ := geo_cells hr
  go_wp2_with fail
  refine (HC3.out _).mono ?_
  rintro e w3 ⟨rfl, hb3⟩
  have B3 := below_chain (B2.alloc B2.size _) hb3 (B2.alloc B2.size _).size
  clear c0 c1 c2 c3 c4 c5 c6 c7 c8
  have hr := (hr.alloc _).below hb3 (hr.alloc _).lt
  obtain ⟨c0, c1, c2, c3, c4, c5, c6, c7, c8⟩ := geo_cells hr
  go_wp2_with fail
  refine (HC4.out _).mono ?_
  rintro e w4 ⟨rfl, hb4⟩
  have B4 := below_chain B3 hb4 B3.size
  clear c0 c1 c2 c3 c4 c5 c6 c7 c8
  have hr := hr.below hb4 hr.lt
  obtain ⟨c0, c1, c2, c3, c4, c5, c6, c7, c8⟩ := geo_cells hr
  go_wp2_with fail
  refine (HC5.out _).mono ?_
  rintro e w5 ⟨rfl, hb5⟩
  have B5 := below_chain B4 hb5 B4.size
  clear c0 c1 c2 c3 c4 c5 c6 c7 c8
  have hr := hr.below hb5 hr.lt
  obtain ⟨c0, c1, c2, c3, c4, c5, c6, c7, c8⟩ := geo_cells hr
  go_wp2_with fail
  refine (HC6.out _).mono ?_
  rintro e w6 ⟨rfl, hb6⟩
  have B6 := below_chain B5 hb6 B5.size
  clear c0 c1 c2 c3 c4 c5 c6 c7 c8
  have hr := hr.below hb6 hr.lt
  obtain ⟨c0, c1, c2, c3, c4, c5, c6, c7, c8⟩ := geo_cells hr
  go_wp2_with fail
  refine (HC7.out _).mono ?_
  rintro e w7 ⟨k, rfl, hk, hrow, hb7⟩
  have B7 := below_chain B6 hb7 B6.size
  go_wp2_with fail
  refine (same_one _ k w7.heap.size 134 (hrow.alloc _) (by have := rowAt_alloc w7 #[.int .i64 0, .int .i64 134] 54; exact this)).mono ?_
  rintro e w8 ⟨rfl, hb8⟩
  have B8 := below_chain (B7.alloc B7.size _) hb8 (B7.alloc B7.size _).size
  go_wp2_with fail
  go_ret
  exact ⟨rfl, B8⟩

end Go.Proofs.Ytmljampbajjmlaa
