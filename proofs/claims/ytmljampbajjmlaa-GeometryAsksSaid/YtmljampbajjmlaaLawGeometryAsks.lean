/- For every input the law glissadelaw05.GeometryAsks returns true. -/
import Derived.Test.YtmljampbajjmlaaGeoAlive
import Derived.Test.YtmljampbajjmlaaFrame
import Derived.Deep.RegionHeld3
set_option linter.unusedVariables false
set_option linter.unusedSimpArgs false
namespace Go.Proofs.Ytmljampbajjmlaa
open Go.RowKit Go.Joins

theorem asks_keep {w0 W W' : World} {K B i j : Nat} {b l m la ma ml ta tl da : Int} (h : W.cell? ⟨K, 0, none⟩ = some (.int .i64 b) ∧ W.cell? ⟨K, 1, none⟩ = some (.int .i64 l) ∧ W.cell? ⟨K, 2, none⟩ = some (.int .i64 m) ∧ W.cell? ⟨K, 3, none⟩ = some (.int .i64 la) ∧ W.cell? ⟨K, 4, none⟩ = some (.int .i64 ma) ∧ W.cell? ⟨K, 5, none⟩ = some (.int .i64 ml) ∧ W.cell? ⟨K, 6, none⟩ = some (.int .i64 ta) ∧ W.cell? ⟨K, 7, none⟩ = some (.int .i64 tl) ∧ W.cell? ⟨K, 8, none⟩ = some (.int .i64 da) ∧ RowAt W K [.int .i64 b, .int .i64 l, .int .i64 m, .int .i64 la, .int .i64 ma, .int .i64 ml, .int .i64 ta, .int .i64 tl, .int .i64 da] ∧ RowAt W i [.int .i64 0, .int .i64 da] ∧ RowAt W j [.int .i64 0, .int .i64 da] ∧ Below B w0 W ∧ B ≤ W.heap.size) (hb : Below W.heap.size W W') : W'.cell? ⟨K, 0, none⟩ = some (.int .i64 b) ∧ W'.cell? ⟨K, 1, none⟩ = some (.int .i64 l) ∧ W'.cell? ⟨K, 2, none⟩ = some (.int .i64 m) ∧ W'.cell? ⟨K, 3, none⟩ = some (.int .i64 la) ∧ W'.cell? ⟨K, 4, none⟩ = some (.int .i64 ma) ∧ W'.cell? ⟨K, 5, none⟩ = some (.int .i64 ml) ∧ W'.cell? ⟨K, 6, none⟩ = some (.int .i64 ta) ∧ W'.cell? ⟨K, 7, none⟩ = some (.int .i64 tl) ∧ W'.cell? ⟨K, 8, none⟩ = some (.int .i64 da) ∧ RowAt W' K [.int .i64 b, .int .i64 l, .int .i64 m, .int .i64 la, .int .i64 ma, .int .i64 ml, .int .i64 ta, .int .i64 tl, .int .i64 da] ∧ RowAt W' i [.int .i64 0, .int .i64 da] ∧ RowAt W' j [.int .i64 0, .int .i64 da] ∧ Below B w0 W' ∧ B ≤ W'.heap.size := by
  obtain ⟨_, _, _, _, _, _, _, _, _, hr, hi, hj, hB, hs⟩ := h
  have hr' := hr.below hb hr.lt
  obtain ⟨c0, c1, c2, c3, c4, c5, c6, c7, c8⟩ := geo_cells hr'
  exact ⟨c0, c1, c2, c3, c4, c5, c6, c7, c8, hr', hi.below hb hi.lt, hj.below hb hj.lt, below_chain hB hb hs, Nat.le_trans hs hb.size⟩

theorem asks_rows {w0 W : World} {K B i j : Nat} {b l m la ma ml ta tl da : Int} (h : W.cell? ⟨K, 0, none⟩ = some (.int .i64 b) ∧ W.cell? ⟨K, 1, none⟩ = some (.int .i64 l) ∧ W.cell? ⟨K, 2, none⟩ = some (.int .i64 m) ∧ W.cell? ⟨K, 3, none⟩ = some (.int .i64 la) ∧ W.cell? ⟨K, 4, none⟩ = some (.int .i64 ma) ∧ W.cell? ⟨K, 5, none⟩ = some (.int .i64 ml) ∧ W.cell? ⟨K, 6, none⟩ = some (.int .i64 ta) ∧ W.cell? ⟨K, 7, none⟩ = some (.int .i64 tl) ∧ W.cell? ⟨K, 8, none⟩ = some (.int .i64 da) ∧ RowAt W K [.int .i64 b, .int .i64 l, .int .i64 m, .int .i64 la, .int .i64 ma, .int .i64 ml, .int .i64 ta, .int .i64 tl, .int .i64 da] ∧ RowAt W i [.int .i64 0, .int .i64 da] ∧ RowAt W j [.int .i64 0, .int .i64 da] ∧ Below B w0 W ∧ B ≤ W.heap.size) : RowAt W i [.int .i64 0, .int .i64 da] ∧ RowAt W j [.int .i64 0, .int .i64 da] := by
  obtain ⟨_, _, _, _, _, _, _, _, _, hr, hi, hj, hB, hs⟩ := h
  exact ⟨hi, hj⟩

theorem asks_ends {w0 W : World} {K B i j : Nat} {b l m la ma ml ta tl da : Int} (h : W.cell? ⟨K, 0, none⟩ = some (.int .i64 b) ∧ W.cell? ⟨K, 1, none⟩ = some (.int .i64 l) ∧ W.cell? ⟨K, 2, none⟩ = some (.int .i64 m) ∧ W.cell? ⟨K, 3, none⟩ = some (.int .i64 la) ∧ W.cell? ⟨K, 4, none⟩ = some (.int .i64 ma) ∧ W.cell? ⟨K, 5, none⟩ = some (.int .i64 ml) ∧ W.cell? ⟨K, 6, none⟩ = some (.int .i64 ta) ∧ W.cell? ⟨K, 7, none⟩ = some (.int .i64 tl) ∧ W.cell? ⟨K, 8, none⟩ = some (.int .i64 da) ∧ RowAt W K [.int .i64 b, .int .i64 l, .int .i64 m, .int .i64 la, .int .i64 ma, .int .i64 ml, .int .i64 ta, .int .i64 tl, .int .i64 da] ∧ RowAt W i [.int .i64 0, .int .i64 da] ∧ RowAt W j [.int .i64 0, .int .i64 da] ∧ Below B w0 W ∧ B ≤ W.heap.size) : RowAt W K [.int .i64 b, .int .i64 l, .int .i64 m, .int .i64 la, .int .i64 ma, .int .i64 ml, .int .i64 ta, .int .i64 tl, .int .i64 da] ∧ RowAt W i [.int .i64 0, .int .i64 da] ∧ RowAt W j [.int .i64 0, .int .i64 da] ∧ Below B w0 W := by
  obtain ⟨_, _, _, _, _, _, _, _, _, hr, hi, hj, hB, hs⟩ := h
  exact ⟨hr, hi, hj, hB⟩

set_option maxRecDepth 100000 in
set_option maxHeartbeats 1000000 in
theorem asks_yes (w : World) (b l m la ma ml ta tl da k n p q r x : Int) (hm : Hid (mayB b l m la ma ml ta tl da = true))
    (HC1 : Hid (∀ W, Calls Try.prog 27 #[gv b l m la ma ml ta tl da, .int .i64 n] W fun e w' => e = .returned (.tuple #[.int .i64 p, .int .i64 q, .int .i64 r]) ∧ Below W.heap.size W w'))
    (HC2 : Hid (∀ W, Calls Try.prog 28 #[gv b l m la ma ml ta tl da, .int .i64 n] W fun e w' => e = .returned (.tuple #[.int .i64 p, .int .i64 q, .int .i64 r]) ∧ Below W.heap.size W w'))
    (HC3 : Hid (∀ W, Calls Try.prog 31 #[gv b l m la ma ml ta tl da, .int .i64 k] W fun e w' => e = .returned (.int .i64 x) ∧ Below W.heap.size W w'))
    (HC4 : Hid (∀ W, Calls Try.prog 32 #[gv b l m la ma ml ta tl da, .int .i64 k] W fun e w' => e = .returned (.int .i64 x) ∧ Below W.heap.size W w')) :
    Calls Try.prog 11 #[gv b l m la ma ml ta tl da, .int .i64 k, .int .i64 n] w fun e w' => e = .returned (.bool true) ∧ Below w.heap.size w w' := by
  go_enter Try.func11, Try.ntmps11
  have B0 := (Below.refl w.heap.size w).alloc (Nat.le_refl _) (.cells #[.int .i64 b, .int .i64 l, .int .i64 m, .int .i64 la, .int .i64 ma, .int .i64 ml, .int .i64 ta, .int .i64 tl, .int .i64 da] 42)
  have hr0 := rowAt_alloc w #[.int .i64 b, .int .i64 l, .int .i64 m, .int .i64 la, .int .i64 ma, .int .i64 ml, .int .i64 ta, .int .i64 tl, .int .i64 da] 42
  go_wp2_with fail
  refine (HC1.out _).mono ?_
  rintro e w1 ⟨rfl, hb1⟩
  have B1 := below_chain B0 hb1 B0.size
  have hr1 := hr0.below hb1 hr0.lt
  obtain ⟨c0, c1, c2, c3, c4, c5, c6, c7, c8⟩ := geo_cells hr1
  go_wp2_with fail
  refine (HC2.out _).mono ?_
  rintro e w2 ⟨rfl, hb2⟩
  have B2 := below_chain B1 hb2 B1.size
  have hr2 := hr1.below hb2 hr1.lt
  clear c0 c1 c2 c3 c4 c5 c6 c7 c8
  obtain ⟨c0, c1, c2, c3, c4, c5, c6, c7, c8⟩ := geo_cells hr2
  go_wp2_with fail
  refine (fixed_yes _ _ _ _ _ _ _ _ _ _ hm.out).mono ?_
  rintro e w3 ⟨i, rfl, hi, hrow3, hb3⟩
  have B3 := below_chain B2 hb3 B2.size
  have hr3 := hr2.below hb3 hr2.lt
  clear c0 c1 c2 c3 c4 c5 c6 c7 c8
  obtain ⟨c0, c1, c2, c3, c4, c5, c6, c7, c8⟩ := geo_cells hr3
  go_wp2_with fail
  refine (rfixed_yes _ _ _ _ _ _ _ _ _ _ hm.out).mono ?_
  rintro e w4 ⟨j, rfl, hj, hrow4, hb4⟩
  have B4 := below_chain B3 hb4 B3.size
  have hr4 := hr3.below hb4 hr3.lt
  have hrowi := hrow3.below hb4 hrow3.lt
  clear c0 c1 c2 c3 c4 c5 c6 c7 c8
  go_wp2_with fail
  obtain ⟨c0, c1, c2, c3, c4, c5, c6, c7, c8⟩ := geo_cells hr4
  have B4s : w.heap.size ≤ w4.heap.size := B4.size
  go_region_held3 (fun w' => w'.cell? ⟨w.heap.size, 0, none⟩ = some (.int .i64 b) ∧ w'.cell? ⟨w.heap.size, 1, none⟩ = some (.int .i64 l) ∧ w'.cell? ⟨w.heap.size, 2, none⟩ = some (.int .i64 m) ∧ w'.cell? ⟨w.heap.size, 3, none⟩ = some (.int .i64 la) ∧ w'.cell? ⟨w.heap.size, 4, none⟩ = some (.int .i64 ma) ∧ w'.cell? ⟨w.heap.size, 5, none⟩ = some (.int .i64 ml) ∧ w'.cell? ⟨w.heap.size, 6, none⟩ = some (.int .i64 ta) ∧ w'.cell? ⟨w.heap.size, 7, none⟩ = some (.int .i64 tl) ∧ w'.cell? ⟨w.heap.size, 8, none⟩ = some (.int .i64 da) ∧ RowAt w' w.heap.size [.int .i64 b, .int .i64 l, .int .i64 m, .int .i64 la, .int .i64 ma, .int .i64 ml, .int .i64 ta, .int .i64 tl, .int .i64 da] ∧ RowAt w' i [.int .i64 0, .int .i64 da] ∧ RowAt w' j [.int .i64 0, .int .i64 da] ∧ Below w.heap.size w w' ∧ w.heap.size ≤ w'.heap.size) (first | (exact asks_keep ⟨c0, c1, c2, c3, c4, c5, c6, c7, c8, hr4, hrowi, hrow4, B4, B4s⟩ ((Below.refl _ _).drew)) | (exact asks_keep (by assumption) (by assumption)))
    (first | (go_at_call 31; refine (HC3.out _).mono ?_; rintro e w' ⟨rfl, hb'⟩) | (go_at_call 32; refine (HC4.out _).mono ?_; rintro e w' ⟨rfl, hb'⟩) | (go_at_call 33; refine (same_one _ i j da (asks_rows (by assumption)).1 (asks_rows (by assumption)).2).mono ?_; rintro e w' ⟨rfl, hb'⟩))
  obtain ⟨hr5, hi5, hj5, B5⟩ := asks_ends (W := w') (by assumption)
  clear c0 c1 c2 c3 c4 c5 c6 c7 c8
  have hKi : w.heap.size < i := by have := hr2.lt; omega
  have hij : i < j := by have := hrow3.lt; omega
  have x0 : w'.cell? ⟨i, 0, none⟩ = some (.int .i64 0) := hi5.cell 0 (by simp)
  have x1 : w'.cell? ⟨i, 1, none⟩ = some (.int .i64 da) := hi5.cell 1 (by simp)
  have z0 : w'.frozen? ⟨i, 0, none⟩ = false := hi5.frozen 0 (by simp)
  have z1 : w'.frozen? ⟨i, 1, none⟩ = false := hi5.frozen 1 (by simp)
  obtain ⟨c0, c1, c2, c3, c4, c5, c6, c7, c8⟩ := geo_cells hr5
  have hne : ¬ w.heap.size = i := by omega
  clear hi5
  go_wp2_with fail
  refine wp_loop_rounds 2 ?_
  rw [rounds_succ]
  go_wp2_with fail
  rw [rounds_succ]
  go_wp2_with fail
  refine (fixed_yes _ _ _ _ _ _ _ _ _ _ hm.out).mono ?_
  rintro e w7 ⟨i', rfl, hi', hrow7, hb7⟩
  have B6 := (B5.setCell (p := ⟨i, 0, none⟩) (by simp; omega) (.int .i64 0)).setCell (p := ⟨i, 1, none⟩) (by simp; omega) (.int .i64 0)
  have B7 := below_chain B6 hb7 B6.size
  have hj7 := ((hj5.other ⟨i, 0, none⟩ (.int .i64 0) (by simp; omega)).other ⟨i, 1, none⟩ (.int .i64 0) (by simp; omega)).below hb7 ((hj5.other ⟨i, 0, none⟩ (.int .i64 0) (by simp; omega)).other ⟨i, 1, none⟩ (.int .i64 0) (by simp; omega)).lt
  go_wp2_with fail
  refine (same_one _ i' j da hrow7 hj7).mono ?_
  rintro e w8 ⟨rfl, hb8⟩
  have B8 := below_chain B7 hb8 B7.size
  go_wp2_with fail
  refine (alive05 _).mono ?_
  rintro e w9 ⟨rfl, hb9⟩
  have B9 := below_chain B8 hb9 B8.size
  go_wp2_with fail
  go_ret
  exact ⟨rfl, B9⟩

theorem ask2_keep {w0 W W' : World} {K B : Nat} {b l m la ma ml ta tl da : Int} (h : W.cell? ⟨K, 0, none⟩ = some (.int .i64 b) ∧ W.cell? ⟨K, 1, none⟩ = some (.int .i64 l) ∧ W.cell? ⟨K, 2, none⟩ = some (.int .i64 m) ∧ W.cell? ⟨K, 3, none⟩ = some (.int .i64 la) ∧ W.cell? ⟨K, 4, none⟩ = some (.int .i64 ma) ∧ W.cell? ⟨K, 5, none⟩ = some (.int .i64 ml) ∧ W.cell? ⟨K, 6, none⟩ = some (.int .i64 ta) ∧ W.cell? ⟨K, 7, none⟩ = some (.int .i64 tl) ∧ W.cell? ⟨K, 8, none⟩ = some (.int .i64 da) ∧ RowAt W K [.int .i64 b, .int .i64 l, .int .i64 m, .int .i64 la, .int .i64 ma, .int .i64 ml, .int .i64 ta, .int .i64 tl, .int .i64 da] ∧ Below B w0 W ∧ B ≤ W.heap.size) (hb : Below W.heap.size W W') : W'.cell? ⟨K, 0, none⟩ = some (.int .i64 b) ∧ W'.cell? ⟨K, 1, none⟩ = some (.int .i64 l) ∧ W'.cell? ⟨K, 2, none⟩ = some (.int .i64 m) ∧ W'.cell? ⟨K, 3, none⟩ = some (.int .i64 la) ∧ W'.cell? ⟨K, 4, none⟩ = some (.int .i64 ma) ∧ W'.cell? ⟨K, 5, none⟩ = some (.int .i64 ml) ∧ W'.cell? ⟨K, 6, none⟩ = some (.int .i64 ta) ∧ W'.cell? ⟨K, 7, none⟩ = some (.int .i64 tl) ∧ W'.cell? ⟨K, 8, none⟩ = some (.int .i64 da) ∧ RowAt W' K [.int .i64 b, .int .i64 l, .int .i64 m, .int .i64 la, .int .i64 ma, .int .i64 ml, .int .i64 ta, .int .i64 tl, .int .i64 da] ∧ Below B w0 W' ∧ B ≤ W'.heap.size := by
  obtain ⟨_, _, _, _, _, _, _, _, _, hr, hB, hs⟩ := h
  have hr' := hr.below hb hr.lt
  obtain ⟨c0, c1, c2, c3, c4, c5, c6, c7, c8⟩ := geo_cells hr'
  exact ⟨c0, c1, c2, c3, c4, c5, c6, c7, c8, hr', below_chain hB hb hs, Nat.le_trans hs hb.size⟩

theorem ask2_ends {w0 W : World} {K B : Nat} {b l m la ma ml ta tl da : Int} (h : W.cell? ⟨K, 0, none⟩ = some (.int .i64 b) ∧ W.cell? ⟨K, 1, none⟩ = some (.int .i64 l) ∧ W.cell? ⟨K, 2, none⟩ = some (.int .i64 m) ∧ W.cell? ⟨K, 3, none⟩ = some (.int .i64 la) ∧ W.cell? ⟨K, 4, none⟩ = some (.int .i64 ma) ∧ W.cell? ⟨K, 5, none⟩ = some (.int .i64 ml) ∧ W.cell? ⟨K, 6, none⟩ = some (.int .i64 ta) ∧ W.cell? ⟨K, 7, none⟩ = some (.int .i64 tl) ∧ W.cell? ⟨K, 8, none⟩ = some (.int .i64 da) ∧ RowAt W K [.int .i64 b, .int .i64 l, .int .i64 m, .int .i64 la, .int .i64 ma, .int .i64 ml, .int .i64 ta, .int .i64 tl, .int .i64 da] ∧ Below B w0 W ∧ B ≤ W.heap.size) : RowAt W K [.int .i64 b, .int .i64 l, .int .i64 m, .int .i64 la, .int .i64 ma, .int .i64 ml, .int .i64 ta, .int .i64 tl, .int .i64 da] ∧ Below B w0 W := by
  obtain ⟨_, _, _, _, _, _, _, _, _, hr, hB, hs⟩ := h
  exact ⟨hr, hB⟩

set_option maxRecDepth 100000 in
set_option maxHeartbeats 1000000 in
theorem asks_no (w : World) (b l m la ma ml ta tl da k n p q r x : Int) (hm : Hid (mayB b l m la ma ml ta tl da = false))
    (HC1 : Hid (∀ W, Calls Try.prog 27 #[gv b l m la ma ml ta tl da, .int .i64 n] W fun e w' => e = .returned (.tuple #[.int .i64 p, .int .i64 q, .int .i64 r]) ∧ Below W.heap.size W w'))
    (HC2 : Hid (∀ W, Calls Try.prog 28 #[gv b l m la ma ml ta tl da, .int .i64 n] W fun e w' => e = .returned (.tuple #[.int .i64 p, .int .i64 q, .int .i64 r]) ∧ Below W.heap.size W w'))
    (HC3 : Hid (∀ W, Calls Try.prog 31 #[gv b l m la ma ml ta tl da, .int .i64 k] W fun e w' => e = .returned (.int .i64 x) ∧ Below W.heap.size W w'))
    (HC4 : Hid (∀ W, Calls Try.prog 32 #[gv b l m la ma ml ta tl da, .int .i64 k] W fun e w' => e = .returned (.int .i64 x) ∧ Below W.heap.size W w')) :
    Calls Try.prog 11 #[gv b l m la ma ml ta tl da, .int .i64 k, .int .i64 n] w fun e w' => e = .returned (.bool true) ∧ Below w.heap.size w w' := by
  go_enter Try.func11, Try.ntmps11
  have B0 := (Below.refl w.heap.size w).alloc (Nat.le_refl _) (.cells #[.int .i64 b, .int .i64 l, .int .i64 m, .int .i64 la, .int .i64 ma, .int .i64 ml, .int .i64 ta, .int .i64 tl, .int .i64 da] 42)
  have hr0 := rowAt_alloc w #[.int .i64 b, .int .i64 l, .int .i64 m, .int .i64 la, .int .i64 ma, .int .i64 ml, .int .i64 ta, .int .i64 tl, .int .i64 da] 42
  go_wp2_with fail
  refine (HC1.out _).mono ?_
  rintro e w1 ⟨rfl, hb1⟩
  have B1 := below_chain B0 hb1 B0.size
  have hr1 := hr0.below hb1 hr0.lt
  obtain ⟨c0, c1, c2, c3, c4, c5, c6, c7, c8⟩ := geo_cells hr1
  go_wp2_with fail
  refine (HC2.out _).mono ?_
  rintro e w2 ⟨rfl, hb2⟩
  have B2 := below_chain B1 hb2 B1.size
  have hr2 := hr1.below hb2 hr1.lt
  clear c0 c1 c2 c3 c4 c5 c6 c7 c8
  obtain ⟨c0, c1, c2, c3, c4, c5, c6, c7, c8⟩ := geo_cells hr2
  go_wp2_with fail
  refine (fixed_no _ _ _ _ _ _ _ _ _ _ hm.out).mono ?_
  rintro e w3 ⟨rfl, hb3⟩
  have B3 := below_chain B2 hb3 B2.size
  have hr3 := hr2.below hb3 hr2.lt
  clear c0 c1 c2 c3 c4 c5 c6 c7 c8
  obtain ⟨c0, c1, c2, c3, c4, c5, c6, c7, c8⟩ := geo_cells hr3
  go_wp2_with fail
  refine (rfixed_no _ _ _ _ _ _ _ _ _ _ hm.out).mono ?_
  rintro e w4 ⟨rfl, hb4⟩
  have B4 := below_chain B3 hb4 B3.size
  have hr4 := hr3.below hb4 hr3.lt
  clear c0 c1 c2 c3 c4 c5 c6 c7 c8
  go_wp2_with fail
  obtain ⟨c0, c1, c2, c3, c4, c5, c6, c7, c8⟩ := geo_cells hr4
  have B4s : w.heap.size ≤ w4.heap.size := B4.size
  go_region_held3 (fun w' => w'.cell? ⟨w.heap.size, 0, none⟩ = some (.int .i64 b) ∧ w'.cell? ⟨w.heap.size, 1, none⟩ = some (.int .i64 l) ∧ w'.cell? ⟨w.heap.size, 2, none⟩ = some (.int .i64 m) ∧ w'.cell? ⟨w.heap.size, 3, none⟩ = some (.int .i64 la) ∧ w'.cell? ⟨w.heap.size, 4, none⟩ = some (.int .i64 ma) ∧ w'.cell? ⟨w.heap.size, 5, none⟩ = some (.int .i64 ml) ∧ w'.cell? ⟨w.heap.size, 6, none⟩ = some (.int .i64 ta) ∧ w'.cell? ⟨w.heap.size, 7, none⟩ = some (.int .i64 tl) ∧ w'.cell? ⟨w.heap.size, 8, none⟩ = some (.int .i64 da) ∧ RowAt w' w.heap.size [.int .i64 b, .int .i64 l, .int .i64 m, .int .i64 la, .int .i64 ma, .int .i64 ml, .int .i64 ta, .int .i64 tl, .int .i64 da] ∧ Below w.heap.size w w' ∧ w.heap.size ≤ w'.heap.size) (first | (exact ask2_keep ⟨c0, c1, c2, c3, c4, c5, c6, c7, c8, hr4, B4, B4s⟩ ((Below.refl _ _).drew)) | (exact ask2_keep (by assumption) (by assumption)))
    (first | (go_at_call 31; refine (HC3.out _).mono ?_; rintro e w' ⟨rfl, hb'⟩) | (go_at_call 32; refine (HC4.out _).mono ?_; rintro e w' ⟨rfl, hb'⟩) | (go_at_call 33; refine (same_nil _).mono ?_; rintro e w' ⟨rfl, hb'⟩))
  obtain ⟨hr5, B5⟩ := ask2_ends (W := w') (by assumption)
  clear c0 c1 c2 c3 c4 c5 c6 c7 c8
  obtain ⟨c0, c1, c2, c3, c4, c5, c6, c7, c8⟩ := geo_cells hr5
  go_wp2_with fail
  refine wp_loop_rounds 2 ?_
  rw [rounds_succ]
  go_wp2_with fail
  refine (fixed_no _ _ _ _ _ _ _ _ _ _ hm.out).mono ?_
  rintro e w7 ⟨rfl, hb7⟩
  have B7 := below_chain B5 hb7 B5.size
  go_wp2_with fail
  refine (same_nil _).mono ?_
  rintro e w8 ⟨rfl, hb8⟩
  have B8 := below_chain B7 hb8 B7.size
  go_wp2_with fail
  refine (alive05 _).mono ?_
  rintro e w9 ⟨rfl, hb9⟩
  have B9 := below_chain B8 hb9 B8.size
  go_wp2_with fail
  go_ret
  exact ⟨rfl, B9⟩

theorem inodeV_three (b l m la ma ml ta tl da n : Int) : ∃ p q r : Int, inodeV b l m la ma ml ta tl da n = .tuple #[.int .i64 p, .int .i64 q, .int .i64 r] := by
  unfold inodeV
  repeat' split
  all_goals exact ⟨_, _, _, rfl⟩

theorem walk_geometryAsks (w : World) (b l m la ma ml ta tl da : Int) (_ : ∀ z ∈ [b, l, m, la, ma, ml, ta, tl, da], -9223372036854775808 ≤ z ∧ z ≤ 9223372036854775807) (k : Int) (_ : -9223372036854775808 ≤ k) (_ : k ≤ 9223372036854775807) (n : Int) (_ : -9223372036854775808 ≤ n) (_ : n ≤ 9223372036854775807) :
    Calls Try.prog 11 #[gv b l m la ma ml ta tl da, .int .i64 k, .int .i64 n] w fun e w' => e = .returned (.bool true) ∧ Below w.heap.size w w' := by
  obtain ⟨p, q, r, e⟩ := inodeV_three b l m la ma ml ta tl da n
  have h1 := fun W => by have := inode_any b l m la ma ml ta tl da n W; rw [e] at this; exact this
  have h2 := fun W => by have := rinode_any b l m la ma ml ta tl da n W; rw [e] at this; exact this
  by_cases hm : mayB b l m la ma ml ta tl da = true
  · exact asks_yes w b l m la ma ml ta tl da k n p q r _ hm h1 h2 (fun W => where_any b l m la ma ml ta tl da k W) (fun W => rwhere_any b l m la ma ml ta tl da k W)
  · exact asks_no w b l m la ma ml ta tl da k n p q r _ (show _ = _ by simpa using hm) h1 h2 (fun W => where_any b l m la ma ml ta tl da k W) (fun W => rwhere_any b l m la ma ml ta tl da k W)

/-! ### the frame (printed by mklaw.py) -/

set_option maxRecDepth 100000 in
theorem lifted_geometryAsks (os : Os) (started : os.Started) (H : Type) (enc : TypeId × Value → H) :
    ReturnsInHanded {} Try.checked os 11 .any (Rows.geometryAsksSpec.pre6 enc Try.prog Try.f11 Rows.geometryAsksRow.domain false) (Rows.geometryAsksSpec.post enc Try.prog Try.f11 false true false false) := by
  refine law_step (C := Try.checked) (tb := 4) (by kernel_rfl) (by kernel_rfl) started (by kernel_rfl) Try.func11 rfl Try.underlying4 rfl ?_ ?_
    (ChangeSpec.witness6 (enc := enc) (C := Try.checked) false ⟨#[], #[.agg #[.int .i64 0, .int .i64 0, .int .i64 0, .int .i64 0, .int .i64 0, .int .i64 0, .int .i64 0, .int .i64 0, .int .i64 0], .int .i64 0, .int .i64 0], []⟩ 8 (by kernel_rfl) (by kernel_rfl) (by kernel_rfl) (by kernel_rfl)) ?_
  · intro ds hl
    match ds, hl with
    | [d0, d1, d2], _ => rfl
  · intro t ht
    rw [show Try.f11.params.toList = [42, 3, 3] from by rw [Try.params11]] at ht
    simp only [List.mem_cons, List.not_mem_nil, or_false] at ht
    rcases ht with rfl | rfl | rfl
    · exact ⟨by kernel_rfl, of_decide_eq_true (by kernel_rfl)⟩
    · exact ⟨by kernel_rfl, of_decide_eq_true (by kernel_rfl)⟩
    · exact ⟨by kernel_rfl, of_decide_eq_true (by kernel_rfl)⟩
  · intro W args hG
    rw [show Try.f11.params.toList = [42, 3, 3] from by rw [Try.params11]] at hG
    obtain ⟨v0, v1, v2, rfl, g0, g1, g2⟩ := gotAll_args3 hG
    obtain ⟨zs0, rfl, zl0, zh0⟩ := got_flat (k := .i64) (n := 9) (by kernel_rfl) g0
    obtain ⟨z0_0, z0_1, z0_2, z0_3, z0_4, z0_5, z0_6, z0_7, z0_8, rfl⟩ : ∃ z0_0 z0_1 z0_2 z0_3 z0_4 z0_5 z0_6 z0_7 z0_8, zs0 = [z0_0, z0_1, z0_2, z0_3, z0_4, z0_5, z0_6, z0_7, z0_8] := by
      match zs0, zl0 with
      | [z0_0, z0_1, z0_2, z0_3, z0_4, z0_5, z0_6, z0_7, z0_8], _ => exact ⟨z0_0, z0_1, z0_2, z0_3, z0_4, z0_5, z0_6, z0_7, z0_8, rfl⟩
    obtain ⟨a1, rfl, b1, c1⟩ := got_i64 Try.underlying3 g1
    obtain ⟨a2, rfl, b2, c2⟩ := got_i64 Try.underlying3 g2
    exact walk_geometryAsks W z0_0 z0_1 z0_2 z0_3 z0_4 z0_5 z0_6 z0_7 z0_8 (fun z hz => has_i64 (zh0 z hz)) a1 b1 c1 a2 b2 c2

theorem geometryAsks_over : Rows.geometryAsksRow.holds Try.pinned (OpenSpec.ofChange Rows.geometryAsksSpec) :=
  OpenClaim.holds_of_wide 11 Try.f11 rfl rfl rfl rfl rfl rfl rfl ⟨rfl, rfl, rfl, rfl, rfl⟩ rfl rfl rfl rfl rfl (by kernel_rfl) Try.func11 (by kernel_rfl)
    (of_decide_eq_true (by kernel_rfl)) (by unfold Func.isWrapper; first | (rw [if_pos (by decide +kernel)]; kernel_rfl) | (rw [if_neg (by decide +kernel)]; exact ⟨rfl, rfl⟩))
    (fun os started H enc _ => lifted_geometryAsks os started H enc)

theorem geometryAsks_holds : Rows.GeometryAsksSaid := geometryAsks_over
#print axioms geometryAsks_holds

end Go.Proofs.Ytmljampbajjmlaa
