/- For every input the law glissadelaw05.GeometryOdd returns true. -/
import Derived.Test.YtmljampbajjmlaaGeoAlive
import Derived.Test.YtmljampbajjmlaaFrame
set_option linter.unusedVariables false
set_option linter.unusedSimpArgs false
namespace Go.Proofs.Ytmljampbajjmlaa
open Go.RowKit Go.Joins

theorem gv_may {b l m : Int} (h : geoOk b l m = true) : mayB b l m 1 (1 + l) (gMap b) (1 + l + gMap b) (m / 2) (gData b l m) = true := mayB_iff.2 ⟨h, rfl, rfl, rfl, rfl, rfl, rfl⟩

set_option maxHeartbeats 1000000 in
theorem odd_no0 (w : World) (b l m x n : Int) (h : geoOk b l m = true) (h0 : 0 ≤ x) (h1 : x ≤ 255) (hk : x % 6 = 0) (hne : ¬ n = 1) :
    Calls Try.prog 14 #[.agg #[.int .i64 b, .int .i64 l, .int .i64 m], .int .u8 x, .int .i64 n] w fun e w' => e = .returned (.bool true) ∧ Below w.heap.size w w' := by
  have hm : mayB b l m n (1 + l) (gMap b) (1 + l + gMap b) (m / 2) (gData b l m) = false := by
    rw [← Bool.not_eq_true, mayB_iff]
    intro c
    exact hne (by omega)
  have HC1 := Lib.hid (fun W => of_yes b l m W h)
  have HC2 : Hid (∀ W, Calls Try.prog 27 #[gv b l m n (1 + l) (gMap b) (1 + l + gMap b) (m / 2) (gData b l m), .int .i64 0] W fun e w' => e = .returned (.tuple #[.int .i64 0, .int .i64 0, .int .i64 2]) ∧ Below W.heap.size W w') := fun W => inode_not _ _ _ _ _ _ _ _ _ 0 W hm
  have HC3 : Hid (∀ W, Calls Try.prog 31 #[gv b l m n (1 + l) (gMap b) (1 + l + gMap b) (m / 2) (gData b l m), .int .i64 0] W fun e w' => e = .returned (.int .i64 (-1)) ∧ Below W.heap.size W w') := fun W => where_out _ _ _ _ _ _ _ _ _ 0 W (by rw [hm]; simp)
  have HC4 : Hid (∀ W, Calls Try.prog 29 #[gv b l m n (1 + l) (gMap b) (1 + l + gMap b) (m / 2) (gData b l m)] W fun e w' => e = .returned (.slice none 0 0) ∧ Below W.heap.size W w') := fun W => fixed_no _ _ _ _ _ _ _ _ _ W hm
  have hne' : ¬ 1 = n := fun c => hne c.symm
  clear hm h
  go_enter Try.func14, Try.ntmps14
  go_wp2_with fail
  refine (HC1.out _).mono ?_
  rintro e w1 ⟨rfl, hb1⟩
  have B0 := (Below.refl w.heap.size w).alloc (Nat.le_refl _) (.cells #[.int .i64 b, .int .i64 l, .int .i64 m] 56)
  have B1 := below_chain B0 hb1 B0.size
  have B1a := (B1.alloc B1.size (.cells #[.int .i64 b, .int .i64 l, .int .i64 m, .int .i64 1, .int .i64 (1 + l), .int .i64 (gMap b), .int .i64 (1 + l + gMap b), .int .i64 (m / 2), .int .i64 (gData b l m)] 42))
  go_wp2_with fail
  refine (HC2.out _).mono ?_
  rintro e w2 ⟨rfl, hb2⟩
  have B2 := below_chain (B1a.alloc B1a.size (.cells #[.int .i64 b, .int .i64 l, .int .i64 m, .int .i64 n, .int .i64 (1 + l), .int .i64 (gMap b), .int .i64 (1 + l + gMap b), .int .i64 (m / 2), .int .i64 (gData b l m)] 42)) hb2 (B1a.alloc B1a.size _).size
  have hr1 := ((rowAt_alloc w1 #[.int .i64 b, .int .i64 l, .int .i64 m, .int .i64 1, .int .i64 (1 + l), .int .i64 (gMap b), .int .i64 (1 + l + gMap b), .int .i64 (m / 2), .int .i64 (gData b l m)] 42).alloc (.cells #[.int .i64 b, .int .i64 l, .int .i64 m, .int .i64 n, .int .i64 (1 + l), .int .i64 (gMap b), .int .i64 (1 + l + gMap b), .int .i64 (m / 2), .int .i64 (gData b l m)] 42)).below hb2 ((rowAt_alloc w1 _ _).alloc _).lt
  have hr2 := (rowAt_alloc (w1.alloc (.cells #[.int .i64 b, .int .i64 l, .int .i64 m, .int .i64 1, .int .i64 (1 + l), .int .i64 (gMap b), .int .i64 (1 + l + gMap b), .int .i64 (m / 2), .int .i64 (gData b l m)] 42)) #[.int .i64 b, .int .i64 l, .int .i64 m, .int .i64 n, .int .i64 (1 + l), .int .i64 (gMap b), .int .i64 (1 + l + gMap b), .int .i64 (m / 2), .int .i64 (gData b l m)] 42).below hb2 (rowAt_alloc _ _ _).lt
  rw [World.size_alloc] at hr2
  obtain ⟨c0, c1, c2, c3, c4, c5, c6, c7, c8⟩ := geo_cells hr1
  obtain ⟨d0, d1, d2, d3, d4, d5, d6, d7, d8⟩ := geo_cells hr2
  go_wp2_with fail
  refine (HC3.out _).mono ?_
  rintro e w3 ⟨rfl, hb3⟩
  have B3 := below_chain B2 hb3 B2.size
  have hr3 := hr2.below hb3 hr2.lt
  clear c0 c1 c2 c3 c4 c5 c6 c7 c8 d0 d1 d2 d3 d4 d5 d6 d7 d8
  obtain ⟨d0, d1, d2, d3, d4, d5, d6, d7, d8⟩ := geo_cells hr3
  go_wp2_with fail
  refine (HC4.out _).mono ?_
  rintro e w4 ⟨rfl, hb4⟩
  have B4 := below_chain B3 hb4 B3.size
  go_wp2_with fail
  refine (alive05 _).mono ?_
  rintro e w5 ⟨rfl, hb5⟩
  have B5 := below_chain B4 hb5 B4.size
  go_wp2_with fail
  go_ret
  exact ⟨rfl, B5⟩

set_option maxHeartbeats 1000000 in
theorem odd_yes0 (w : World) (b l m x : Int) (h : geoOk b l m = true) (h0 : 0 ≤ x) (h1 : x ≤ 255) (hk : x % 6 = 0) :
    Calls Try.prog 14 #[.agg #[.int .i64 b, .int .i64 l, .int .i64 m], .int .u8 x, .int .i64 1] w fun e w' => e = .returned (.bool true) ∧ Below w.heap.size w w' := by
  have hm := gv_may h
  have hw : whereV b l m 1 (1 + l) (gMap b) (1 + l + gMap b) (m / 2) (gData b l m) 0 = 0 := by
    obtain ⟨f1, _⟩ := geoOk_iff.1 h
    unfold whereV
    rw [if_pos ⟨hm, by decide, by omega⟩, if_pos (by decide)]
  obtain ⟨f1, f2, f3, f4, f5, f6, f7, f8⟩ := geoOk_iff.1 h
  have HC1 := Lib.hid (fun W => of_yes b l m W h)
  have HC2 : Hid (∀ W, Calls Try.prog 27 #[gv b l m 1 (1 + l) (gMap b) (1 + l + gMap b) (m / 2) (gData b l m), .int .i64 0] W fun e w' => e = .returned (.tuple #[.int .i64 ((1 + l + gMap b) + 0 / 2), .int .i64 (0 % 2 * 64), .int .i64 0]) ∧ Below W.heap.size W w') := fun W => inode_in _ _ _ _ _ _ _ _ _ 0 W hm (by decide) (by omega)
  have HC3 : Hid (∀ W, Calls Try.prog 31 #[gv b l m 1 (1 + l) (gMap b) (1 + l + gMap b) (m / 2) (gData b l m), .int .i64 0] W fun e w' => e = .returned (.int .i64 0) ∧ Below W.heap.size W w') := fun W => by have := where_in _ _ _ _ _ _ _ _ _ 0 W hm (by decide) (by omega); rwa [hw] at this
  have HC4 : Hid (∀ W, Calls Try.prog 29 #[gv b l m 1 (1 + l) (gMap b) (1 + l + gMap b) (m / 2) (gData b l m)] W (OneRun W (gData b l m))) := fun W => fixed_yes _ _ _ _ _ _ _ _ _ W hm
  clear hm h hw f1 f2 f3 f4 f5 f6 f7 f8
  go_enter Try.func14, Try.ntmps14
  go_wp2_with fail
  refine (HC1.out _).mono ?_
  rintro e w1 ⟨rfl, hb1⟩
  have B0 := (Below.refl w.heap.size w).alloc (Nat.le_refl _) (.cells #[.int .i64 b, .int .i64 l, .int .i64 m] 56)
  have B1 := below_chain B0 hb1 B0.size
  have B1a := (B1.alloc B1.size (.cells #[.int .i64 b, .int .i64 l, .int .i64 m, .int .i64 1, .int .i64 (1 + l), .int .i64 (gMap b), .int .i64 (1 + l + gMap b), .int .i64 (m / 2), .int .i64 (gData b l m)] 42))
  go_wp2_with fail
  refine (HC2.out _).mono ?_
  rintro e w2 ⟨rfl, hb2⟩
  have B2 := below_chain (B1a.alloc B1a.size (.cells #[.int .i64 b, .int .i64 l, .int .i64 m, .int .i64 1, .int .i64 (1 + l), .int .i64 (gMap b), .int .i64 (1 + l + gMap b), .int .i64 (m / 2), .int .i64 (gData b l m)] 42)) hb2 (B1a.alloc B1a.size _).size
  have hr1 := ((rowAt_alloc w1 #[.int .i64 b, .int .i64 l, .int .i64 m, .int .i64 1, .int .i64 (1 + l), .int .i64 (gMap b), .int .i64 (1 + l + gMap b), .int .i64 (m / 2), .int .i64 (gData b l m)] 42).alloc (.cells #[.int .i64 b, .int .i64 l, .int .i64 m, .int .i64 1, .int .i64 (1 + l), .int .i64 (gMap b), .int .i64 (1 + l + gMap b), .int .i64 (m / 2), .int .i64 (gData b l m)] 42)).below hb2 ((rowAt_alloc w1 _ _).alloc _).lt
  have hr2 := (rowAt_alloc (w1.alloc (.cells #[.int .i64 b, .int .i64 l, .int .i64 m, .int .i64 1, .int .i64 (1 + l), .int .i64 (gMap b), .int .i64 (1 + l + gMap b), .int .i64 (m / 2), .int .i64 (gData b l m)] 42)) #[.int .i64 b, .int .i64 l, .int .i64 m, .int .i64 1, .int .i64 (1 + l), .int .i64 (gMap b), .int .i64 (1 + l + gMap b), .int .i64 (m / 2), .int .i64 (gData b l m)] 42).below hb2 (rowAt_alloc _ _ _).lt
  rw [World.size_alloc] at hr2
  obtain ⟨c0, c1, c2, c3, c4, c5, c6, c7, c8⟩ := geo_cells hr1
  obtain ⟨d0, d1, d2, d3, d4, d5, d6, d7, d8⟩ := geo_cells hr2
  go_wp2_with fail
  refine (HC3.out _).mono ?_
  rintro e w3 ⟨rfl, hb3⟩
  have B3 := below_chain B2 hb3 B2.size
  have hr3 := hr2.below hb3 hr2.lt
  clear c0 c1 c2 c3 c4 c5 c6 c7 c8 d0 d1 d2 d3 d4 d5 d6 d7 d8
  obtain ⟨d0, d1, d2, d3, d4, d5, d6, d7, d8⟩ := geo_cells hr3
  go_wp2_with fail
  refine (HC4.out _).mono ?_
  rintro e w4 ⟨k4, rfl, hk4, hrow4, hb4⟩
  have B4 := below_chain B3 hb4 B3.size
  go_wp2_with fail
  refine (alive05 _).mono ?_
  rintro e w5 ⟨rfl, hb5⟩
  have B5 := below_chain B4 hb5 B4.size
  go_wp2_with fail
  go_ret
  exact ⟨rfl, B5⟩

set_option maxHeartbeats 1000000 in
theorem odd_no1 (w : World) (b l m x n : Int) (h : geoOk b l m = true) (h0 : 0 ≤ x) (h1 : x ≤ 255) (hk : x % 6 = 1) (hne : ¬ n = (1 + l)) :
    Calls Try.prog 14 #[.agg #[.int .i64 b, .int .i64 l, .int .i64 m], .int .u8 x, .int .i64 n] w fun e w' => e = .returned (.bool true) ∧ Below w.heap.size w w' := by
  have hm : mayB b l m 1 n (gMap b) (1 + l + gMap b) (m / 2) (gData b l m) = false := by
    rw [← Bool.not_eq_true, mayB_iff]
    intro c
    exact hne (by omega)
  have HC1 := Lib.hid (fun W => of_yes b l m W h)
  have HC2 : Hid (∀ W, Calls Try.prog 27 #[gv b l m 1 n (gMap b) (1 + l + gMap b) (m / 2) (gData b l m), .int .i64 0] W fun e w' => e = .returned (.tuple #[.int .i64 0, .int .i64 0, .int .i64 2]) ∧ Below W.heap.size W w') := fun W => inode_not _ _ _ _ _ _ _ _ _ 0 W hm
  have HC3 : Hid (∀ W, Calls Try.prog 31 #[gv b l m 1 n (gMap b) (1 + l + gMap b) (m / 2) (gData b l m), .int .i64 0] W fun e w' => e = .returned (.int .i64 (-1)) ∧ Below W.heap.size W w') := fun W => where_out _ _ _ _ _ _ _ _ _ 0 W (by rw [hm]; simp)
  have HC4 : Hid (∀ W, Calls Try.prog 29 #[gv b l m 1 n (gMap b) (1 + l + gMap b) (m / 2) (gData b l m)] W fun e w' => e = .returned (.slice none 0 0) ∧ Below W.heap.size W w') := fun W => fixed_no _ _ _ _ _ _ _ _ _ W hm
  have hne' : ¬ (1 + l) = n := fun c => hne c.symm
  clear hm h
  go_enter Try.func14, Try.ntmps14
  go_wp2_with fail
  refine (HC1.out _).mono ?_
  rintro e w1 ⟨rfl, hb1⟩
  have B0 := (Below.refl w.heap.size w).alloc (Nat.le_refl _) (.cells #[.int .i64 b, .int .i64 l, .int .i64 m] 56)
  have B1 := below_chain B0 hb1 B0.size
  have B1a := (B1.alloc B1.size (.cells #[.int .i64 b, .int .i64 l, .int .i64 m, .int .i64 1, .int .i64 (1 + l), .int .i64 (gMap b), .int .i64 (1 + l + gMap b), .int .i64 (m / 2), .int .i64 (gData b l m)] 42))
  go_wp2_with fail
  refine (HC2.out _).mono ?_
  rintro e w2 ⟨rfl, hb2⟩
  have B2 := below_chain (B1a.alloc B1a.size (.cells #[.int .i64 b, .int .i64 l, .int .i64 m, .int .i64 1, .int .i64 n, .int .i64 (gMap b), .int .i64 (1 + l + gMap b), .int .i64 (m / 2), .int .i64 (gData b l m)] 42)) hb2 (B1a.alloc B1a.size _).size
  have hr1 := ((rowAt_alloc w1 #[.int .i64 b, .int .i64 l, .int .i64 m, .int .i64 1, .int .i64 (1 + l), .int .i64 (gMap b), .int .i64 (1 + l + gMap b), .int .i64 (m / 2), .int .i64 (gData b l m)] 42).alloc (.cells #[.int .i64 b, .int .i64 l, .int .i64 m, .int .i64 1, .int .i64 n, .int .i64 (gMap b), .int .i64 (1 + l + gMap b), .int .i64 (m / 2), .int .i64 (gData b l m)] 42)).below hb2 ((rowAt_alloc w1 _ _).alloc _).lt
  have hr2 := (rowAt_alloc (w1.alloc (.cells #[.int .i64 b, .int .i64 l, .int .i64 m, .int .i64 1, .int .i64 (1 + l), .int .i64 (gMap b), .int .i64 (1 + l + gMap b), .int .i64 (m / 2), .int .i64 (gData b l m)] 42)) #[.int .i64 b, .int .i64 l, .int .i64 m, .int .i64 1, .int .i64 n, .int .i64 (gMap b), .int .i64 (1 + l + gMap b), .int .i64 (m / 2), .int .i64 (gData b l m)] 42).below hb2 (rowAt_alloc _ _ _).lt
  rw [World.size_alloc] at hr2
  obtain ⟨c0, c1, c2, c3, c4, c5, c6, c7, c8⟩ := geo_cells hr1
  obtain ⟨d0, d1, d2, d3, d4, d5, d6, d7, d8⟩ := geo_cells hr2
  go_wp2_with fail
  refine (HC3.out _).mono ?_
  rintro e w3 ⟨rfl, hb3⟩
  have B3 := below_chain B2 hb3 B2.size
  have hr3 := hr2.below hb3 hr2.lt
  clear c0 c1 c2 c3 c4 c5 c6 c7 c8 d0 d1 d2 d3 d4 d5 d6 d7 d8
  obtain ⟨d0, d1, d2, d3, d4, d5, d6, d7, d8⟩ := geo_cells hr3
  go_wp2_with fail
  refine (HC4.out _).mono ?_
  rintro e w4 ⟨rfl, hb4⟩
  have B4 := below_chain B3 hb4 B3.size
  go_wp2_with fail
  refine (alive05 _).mono ?_
  rintro e w5 ⟨rfl, hb5⟩
  have B5 := below_chain B4 hb5 B4.size
  go_wp2_with fail
  go_ret
  exact ⟨rfl, B5⟩

set_option maxHeartbeats 1000000 in
theorem odd_yes1 (w : World) (b l m x : Int) (h : geoOk b l m = true) (h0 : 0 ≤ x) (h1 : x ≤ 255) (hk : x % 6 = 1) :
    Calls Try.prog 14 #[.agg #[.int .i64 b, .int .i64 l, .int .i64 m], .int .u8 x, .int .i64 (1 + l)] w fun e w' => e = .returned (.bool true) ∧ Below w.heap.size w w' := by
  have hm := gv_may h
  have hw : whereV b l m 1 (1 + l) (gMap b) (1 + l + gMap b) (m / 2) (gData b l m) 0 = 0 := by
    obtain ⟨f1, _⟩ := geoOk_iff.1 h
    unfold whereV
    rw [if_pos ⟨hm, by decide, by omega⟩, if_pos (by decide)]
  obtain ⟨f1, f2, f3, f4, f5, f6, f7, f8⟩ := geoOk_iff.1 h
  have HC1 := Lib.hid (fun W => of_yes b l m W h)
  have HC2 : Hid (∀ W, Calls Try.prog 27 #[gv b l m 1 (1 + l) (gMap b) (1 + l + gMap b) (m / 2) (gData b l m), .int .i64 0] W fun e w' => e = .returned (.tuple #[.int .i64 ((1 + l + gMap b) + 0 / 2), .int .i64 (0 % 2 * 64), .int .i64 0]) ∧ Below W.heap.size W w') := fun W => inode_in _ _ _ _ _ _ _ _ _ 0 W hm (by decide) (by omega)
  have HC3 : Hid (∀ W, Calls Try.prog 31 #[gv b l m 1 (1 + l) (gMap b) (1 + l + gMap b) (m / 2) (gData b l m), .int .i64 0] W fun e w' => e = .returned (.int .i64 0) ∧ Below W.heap.size W w') := fun W => by have := where_in _ _ _ _ _ _ _ _ _ 0 W hm (by decide) (by omega); rwa [hw] at this
  have HC4 : Hid (∀ W, Calls Try.prog 29 #[gv b l m 1 (1 + l) (gMap b) (1 + l + gMap b) (m / 2) (gData b l m)] W (OneRun W (gData b l m))) := fun W => fixed_yes _ _ _ _ _ _ _ _ _ W hm
  clear hm h hw f1 f2 f3 f4 f5 f6 f7 f8
  go_enter Try.func14, Try.ntmps14
  go_wp2_with fail
  refine (HC1.out _).mono ?_
  rintro e w1 ⟨rfl, hb1⟩
  have B0 := (Below.refl w.heap.size w).alloc (Nat.le_refl _) (.cells #[.int .i64 b, .int .i64 l, .int .i64 m] 56)
  have B1 := below_chain B0 hb1 B0.size
  have B1a := (B1.alloc B1.size (.cells #[.int .i64 b, .int .i64 l, .int .i64 m, .int .i64 1, .int .i64 (1 + l), .int .i64 (gMap b), .int .i64 (1 + l + gMap b), .int .i64 (m / 2), .int .i64 (gData b l m)] 42))
  go_wp2_with fail
  refine (HC2.out _).mono ?_
  rintro e w2 ⟨rfl, hb2⟩
  have B2 := below_chain (B1a.alloc B1a.size (.cells #[.int .i64 b, .int .i64 l, .int .i64 m, .int .i64 1, .int .i64 (1 + l), .int .i64 (gMap b), .int .i64 (1 + l + gMap b), .int .i64 (m / 2), .int .i64 (gData b l m)] 42)) hb2 (B1a.alloc B1a.size _).size
  have hr1 := ((rowAt_alloc w1 #[.int .i64 b, .int .i64 l, .int .i64 m, .int .i64 1, .int .i64 (1 + l), .int .i64 (gMap b), .int .i64 (1 + l + gMap b), .int .i64 (m / 2), .int .i64 (gData b l m)] 42).alloc (.cells #[.int .i64 b, .int .i64 l, .int .i64 m, .int .i64 1, .int .i64 (1 + l), .int .i64 (gMap b), .int .i64 (1 + l + gMap b), .int .i64 (m / 2), .int .i64 (gData b l m)] 42)).below hb2 ((rowAt_alloc w1 _ _).alloc _).lt
  have hr2 := (rowAt_alloc (w1.alloc (.cells #[.int .i64 b, .int .i64 l, .int .i64 m, .int .i64 1, .int .i64 (1 + l), .int .i64 (gMap b), .int .i64 (1 + l + gMap b), .int .i64 (m / 2), .int .i64 (gData b l m)] 42)) #[.int .i64 b, .int .i64 l, .int .i64 m, .int .i64 1, .int .i64 (1 + l), .int .i64 (gMap b), .int .i64 (1 + l + gMap b), .int .i64 (m / 2), .int .i64 (gData b l m)] 42).below hb2 (rowAt_alloc _ _ _).lt
  rw [World.size_alloc] at hr2
  obtain ⟨c0, c1, c2, c3, c4, c5, c6, c7, c8⟩ := geo_cells hr1
  obtain ⟨d0, d1, d2, d3, d4, d5, d6, d7, d8⟩ := geo_cells hr2
  go_wp2_with fail
  refine (HC3.out _).mono ?_
  rintro e w3 ⟨rfl, hb3⟩
  have B3 := below_chain B2 hb3 B2.size
  have hr3 := hr2.below hb3 hr2.lt
  clear c0 c1 c2 c3 c4 c5 c6 c7 c8 d0 d1 d2 d3 d4 d5 d6 d7 d8
  obtain ⟨d0, d1, d2, d3, d4, d5, d6, d7, d8⟩ := geo_cells hr3
  go_wp2_with fail
  refine (HC4.out _).mono ?_
  rintro e w4 ⟨k4, rfl, hk4, hrow4, hb4⟩
  have B4 := below_chain B3 hb4 B3.size
  go_wp2_with fail
  refine (alive05 _).mono ?_
  rintro e w5 ⟨rfl, hb5⟩
  have B5 := below_chain B4 hb5 B4.size
  go_wp2_with fail
  go_ret
  exact ⟨rfl, B5⟩

set_option maxHeartbeats 1000000 in
theorem odd_no2 (w : World) (b l m x n : Int) (h : geoOk b l m = true) (h0 : 0 ≤ x) (h1 : x ≤ 255) (hk : x % 6 = 2) (hne : ¬ n = (gMap b)) :
    Calls Try.prog 14 #[.agg #[.int .i64 b, .int .i64 l, .int .i64 m], .int .u8 x, .int .i64 n] w fun e w' => e = .returned (.bool true) ∧ Below w.heap.size w w' := by
  have hm : mayB b l m 1 (1 + l) n (1 + l + gMap b) (m / 2) (gData b l m) = false := by
    rw [← Bool.not_eq_true, mayB_iff]
    intro c
    exact hne (by omega)
  have HC1 := Lib.hid (fun W => of_yes b l m W h)
  have HC2 : Hid (∀ W, Calls Try.prog 27 #[gv b l m 1 (1 + l) n (1 + l + gMap b) (m / 2) (gData b l m), .int .i64 0] W fun e w' => e = .returned (.tuple #[.int .i64 0, .int .i64 0, .int .i64 2]) ∧ Below W.heap.size W w') := fun W => inode_not _ _ _ _ _ _ _ _ _ 0 W hm
  have HC3 : Hid (∀ W, Calls Try.prog 31 #[gv b l m 1 (1 + l) n (1 + l + gMap b) (m / 2) (gData b l m), .int .i64 0] W fun e w' => e = .returned (.int .i64 (-1)) ∧ Below W.heap.size W w') := fun W => where_out _ _ _ _ _ _ _ _ _ 0 W (by rw [hm]; simp)
  have HC4 : Hid (∀ W, Calls Try.prog 29 #[gv b l m 1 (1 + l) n (1 + l + gMap b) (m / 2) (gData b l m)] W fun e w' => e = .returned (.slice none 0 0) ∧ Below W.heap.size W w') := fun W => fixed_no _ _ _ _ _ _ _ _ _ W hm
  have hne' : ¬ (gMap b) = n := fun c => hne c.symm
  clear hm h
  go_enter Try.func14, Try.ntmps14
  go_wp2_with fail
  refine (HC1.out _).mono ?_
  rintro e w1 ⟨rfl, hb1⟩
  have B0 := (Below.refl w.heap.size w).alloc (Nat.le_refl _) (.cells #[.int .i64 b, .int .i64 l, .int .i64 m] 56)
  have B1 := below_chain B0 hb1 B0.size
  have B1a := (B1.alloc B1.size (.cells #[.int .i64 b, .int .i64 l, .int .i64 m, .int .i64 1, .int .i64 (1 + l), .int .i64 (gMap b), .int .i64 (1 + l + gMap b), .int .i64 (m / 2), .int .i64 (gData b l m)] 42))
  go_wp2_with fail
  refine (HC2.out _).mono ?_
  rintro e w2 ⟨rfl, hb2⟩
  have B2 := below_chain (B1a.alloc B1a.size (.cells #[.int .i64 b, .int .i64 l, .int .i64 m, .int .i64 1, .int .i64 (1 + l), .int .i64 n, .int .i64 (1 + l + gMap b), .int .i64 (m / 2), .int .i64 (gData b l m)] 42)) hb2 (B1a.alloc B1a.size _).size
  have hr1 := ((rowAt_alloc w1 #[.int .i64 b, .int .i64 l, .int .i64 m, .int .i64 1, .int .i64 (1 + l), .int .i64 (gMap b), .int .i64 (1 + l + gMap b), .int .i64 (m / 2), .int .i64 (gData b l m)] 42).alloc (.cells #[.int .i64 b, .int .i64 l, .int .i64 m, .int .i64 1, .int .i64 (1 + l), .int .i64 n, .int .i64 (1 + l + gMap b), .int .i64 (m / 2), .int .i64 (gData b l m)] 42)).below hb2 ((rowAt_alloc w1 _ _).alloc _).lt
  have hr2 := (rowAt_alloc (w1.alloc (.cells #[.int .i64 b, .int .i64 l, .int .i64 m, .int .i64 1, .int .i64 (1 + l), .int .i64 (gMap b), .int .i64 (1 + l + gMap b), .int .i64 (m / 2), .int .i64 (gData b l m)] 42)) #[.int .i64 b, .int .i64 l, .int .i64 m, .int .i64 1, .int .i64 (1 + l), .int .i64 n, .int .i64 (1 + l + gMap b), .int .i64 (m / 2), .int .i64 (gData b l m)] 42).below hb2 (rowAt_alloc _ _ _).lt
  rw [World.size_alloc] at hr2
  obtain ⟨c0, c1, c2, c3, c4, c5, c6, c7, c8⟩ := geo_cells hr1
  obtain ⟨d0, d1, d2, d3, d4, d5, d6, d7, d8⟩ := geo_cells hr2
  go_wp2_with fail
  refine (HC3.out _).mono ?_
  rintro e w3 ⟨rfl, hb3⟩
  have B3 := below_chain B2 hb3 B2.size
  have hr3 := hr2.below hb3 hr2.lt
  clear c0 c1 c2 c3 c4 c5 c6 c7 c8 d0 d1 d2 d3 d4 d5 d6 d7 d8
  obtain ⟨d0, d1, d2, d3, d4, d5, d6, d7, d8⟩ := geo_cells hr3
  go_wp2_with fail
  refine (HC4.out _).mono ?_
  rintro e w4 ⟨rfl, hb4⟩
  have B4 := below_chain B3 hb4 B3.size
  go_wp2_with fail
  refine (alive05 _).mono ?_
  rintro e w5 ⟨rfl, hb5⟩
  have B5 := below_chain B4 hb5 B4.size
  go_wp2_with fail
  go_ret
  exact ⟨rfl, B5⟩

set_option maxHeartbeats 1000000 in
theorem odd_yes2 (w : World) (b l m x : Int) (h : geoOk b l m = true) (h0 : 0 ≤ x) (h1 : x ≤ 255) (hk : x % 6 = 2) :
    Calls Try.prog 14 #[.agg #[.int .i64 b, .int .i64 l, .int .i64 m], .int .u8 x, .int .i64 (gMap b)] w fun e w' => e = .returned (.bool true) ∧ Below w.heap.size w w' := by
  have hm := gv_may h
  have hw : whereV b l m 1 (1 + l) (gMap b) (1 + l + gMap b) (m / 2) (gData b l m) 0 = 0 := by
    obtain ⟨f1, _⟩ := geoOk_iff.1 h
    unfold whereV
    rw [if_pos ⟨hm, by decide, by omega⟩, if_pos (by decide)]
  obtain ⟨f1, f2, f3, f4, f5, f6, f7, f8⟩ := geoOk_iff.1 h
  have HC1 := Lib.hid (fun W => of_yes b l m W h)
  have HC2 : Hid (∀ W, Calls Try.prog 27 #[gv b l m 1 (1 + l) (gMap b) (1 + l + gMap b) (m / 2) (gData b l m), .int .i64 0] W fun e w' => e = .returned (.tuple #[.int .i64 ((1 + l + gMap b) + 0 / 2), .int .i64 (0 % 2 * 64), .int .i64 0]) ∧ Below W.heap.size W w') := fun W => inode_in _ _ _ _ _ _ _ _ _ 0 W hm (by decide) (by omega)
  have HC3 : Hid (∀ W, Calls Try.prog 31 #[gv b l m 1 (1 + l) (gMap b) (1 + l + gMap b) (m / 2) (gData b l m), .int .i64 0] W fun e w' => e = .returned (.int .i64 0) ∧ Below W.heap.size W w') := fun W => by have := where_in _ _ _ _ _ _ _ _ _ 0 W hm (by decide) (by omega); rwa [hw] at this
  have HC4 : Hid (∀ W, Calls Try.prog 29 #[gv b l m 1 (1 + l) (gMap b) (1 + l + gMap b) (m / 2) (gData b l m)] W (OneRun W (gData b l m))) := fun W => fixed_yes _ _ _ _ _ _ _ _ _ W hm
  clear hm h hw f1 f2 f3 f4 f5 f6 f7 f8
  go_enter Try.func14, Try.ntmps14
  go_wp2_with fail
  refine (HC1.out _).mono ?_
  rintro e w1 ⟨rfl, hb1⟩
  have B0 := (Below.refl w.heap.size w).alloc (Nat.le_refl _) (.cells #[.int .i64 b, .int .i64 l, .int .i64 m] 56)
  have B1 := below_chain B0 hb1 B0.size
  have B1a := (B1.alloc B1.size (.cells #[.int .i64 b, .int .i64 l, .int .i64 m, .int .i64 1, .int .i64 (1 + l), .int .i64 (gMap b), .int .i64 (1 + l + gMap b), .int .i64 (m / 2), .int .i64 (gData b l m)] 42))
  go_wp2_with fail
  refine (HC2.out _).mono ?_
  rintro e w2 ⟨rfl, hb2⟩
  have B2 := below_chain (B1a.alloc B1a.size (.cells #[.int .i64 b, .int .i64 l, .int .i64 m, .int .i64 1, .int .i64 (1 + l), .int .i64 (gMap b), .int .i64 (1 + l + gMap b), .int .i64 (m / 2), .int .i64 (gData b l m)] 42)) hb2 (B1a.alloc B1a.size _).size
  have hr1 := ((rowAt_alloc w1 #[.int .i64 b, .int .i64 l, .int .i64 m, .int .i64 1, .int .i64 (1 + l), .int .i64 (gMap b), .int .i64 (1 + l + gMap b), .int .i64 (m / 2), .int .i64 (gData b l m)] 42).alloc (.cells #[.int .i64 b, .int .i64 l, .int .i64 m, .int .i64 1, .int .i64 (1 + l), .int .i64 (gMap b), .int .i64 (1 + l + gMap b), .int .i64 (m / 2), .int .i64 (gData b l m)] 42)).below hb2 ((rowAt_alloc w1 _ _).alloc _).lt
  have hr2 := (rowAt_alloc (w1.alloc (.cells #[.int .i64 b, .int .i64 l, .int .i64 m, .int .i64 1, .int .i64 (1 + l), .int .i64 (gMap b), .int .i64 (1 + l + gMap b), .int .i64 (m / 2), .int .i64 (gData b l m)] 42)) #[.int .i64 b, .int .i64 l, .int .i64 m, .int .i64 1, .int .i64 (1 + l), .int .i64 (gMap b), .int .i64 (1 + l + gMap b), .int .i64 (m / 2), .int .i64 (gData b l m)] 42).below hb2 (rowAt_alloc _ _ _).lt
  rw [World.size_alloc] at hr2
  obtain ⟨c0, c1, c2, c3, c4, c5, c6, c7, c8⟩ := geo_cells hr1
  obtain ⟨d0, d1, d2, d3, d4, d5, d6, d7, d8⟩ := geo_cells hr2
  go_wp2_with fail
  refine (HC3.out _).mono ?_
  rintro e w3 ⟨rfl, hb3⟩
  have B3 := below_chain B2 hb3 B2.size
  have hr3 := hr2.below hb3 hr2.lt
  clear c0 c1 c2 c3 c4 c5 c6 c7 c8 d0 d1 d2 d3 d4 d5 d6 d7 d8
  obtain ⟨d0, d1, d2, d3, d4, d5, d6, d7, d8⟩ := geo_cells hr3
  go_wp2_with fail
  refine (HC4.out _).mono ?_
  rintro e w4 ⟨k4, rfl, hk4, hrow4, hb4⟩
  have B4 := below_chain B3 hb4 B3.size
  go_wp2_with fail
  refine (alive05 _).mono ?_
  rintro e w5 ⟨rfl, hb5⟩
  have B5 := below_chain B4 hb5 B4.size
  go_wp2_with fail
  go_ret
  exact ⟨rfl, B5⟩

set_option maxHeartbeats 1000000 in
theorem odd_no3 (w : World) (b l m x n : Int) (h : geoOk b l m = true) (h0 : 0 ≤ x) (h1 : x ≤ 255) (hk : x % 6 = 3) (hne : ¬ n = (1 + l + gMap b)) :
    Calls Try.prog 14 #[.agg #[.int .i64 b, .int .i64 l, .int .i64 m], .int .u8 x, .int .i64 n] w fun e w' => e = .returned (.bool true) ∧ Below w.heap.size w w' := by
  have hm : mayB b l m 1 (1 + l) (gMap b) n (m / 2) (gData b l m) = false := by
    rw [← Bool.not_eq_true, mayB_iff]
    intro c
    exact hne (by omega)
  have HC1 := Lib.hid (fun W => of_yes b l m W h)
  have HC2 : Hid (∀ W, Calls Try.prog 27 #[gv b l m 1 (1 + l) (gMap b) n (m / 2) (gData b l m), .int .i64 0] W fun e w' => e = .returned (.tuple #[.int .i64 0, .int .i64 0, .int .i64 2]) ∧ Below W.heap.size W w') := fun W => inode_not _ _ _ _ _ _ _ _ _ 0 W hm
  have HC3 : Hid (∀ W, Calls Try.prog 31 #[gv b l m 1 (1 + l) (gMap b) n (m / 2) (gData b l m), .int .i64 0] W fun e w' => e = .returned (.int .i64 (-1)) ∧ Below W.heap.size W w') := fun W => where_out _ _ _ _ _ _ _ _ _ 0 W (by rw [hm]; simp)
  have HC4 : Hid (∀ W, Calls Try.prog 29 #[gv b l m 1 (1 + l) (gMap b) n (m / 2) (gData b l m)] W fun e w' => e = .returned (.slice none 0 0) ∧ Below W.heap.size W w') := fun W => fixed_no _ _ _ _ _ _ _ _ _ W hm
  have hne' : ¬ (1 + l + gMap b) = n := fun c => hne c.symm
  clear hm h
  go_enter Try.func14, Try.ntmps14
  go_wp2_with fail
  refine (HC1.out _).mono ?_
  rintro e w1 ⟨rfl, hb1⟩
  have B0 := (Below.refl w.heap.size w).alloc (Nat.le_refl _) (.cells #[.int .i64 b, .int .i64 l, .int .i64 m] 56)
  have B1 := below_chain B0 hb1 B0.size
  have B1a := (B1.alloc B1.size (.cells #[.int .i64 b, .int .i64 l, .int .i64 m, .int .i64 1, .int .i64 (1 + l), .int .i64 (gMap b), .int .i64 (1 + l + gMap b), .int .i64 (m / 2), .int .i64 (gData b l m)] 42))
  go_wp2_with fail
  refine (HC2.out _).mono ?_
  rintro e w2 ⟨rfl, hb2⟩
  have B2 := below_chain (B1a.alloc B1a.size (.cells #[.int .i64 b, .int .i64 l, .int .i64 m, .int .i64 1, .int .i64 (1 + l), .int .i64 (gMap b), .int .i64 n, .int .i64 (m / 2), .int .i64 (gData b l m)] 42)) hb2 (B1a.alloc B1a.size _).size
  have hr1 := ((rowAt_alloc w1 #[.int .i64 b, .int .i64 l, .int .i64 m, .int .i64 1, .int .i64 (1 + l), .int .i64 (gMap b), .int .i64 (1 + l + gMap b), .int .i64 (m / 2), .int .i64 (gData b l m)] 42).alloc (.cells #[.int .i64 b, .int .i64 l, .int .i64 m, .int .i64 1, .int .i64 (1 + l), .int .i64 (gMap b), .int .i64 n, .int .i64 (m / 2), .int .i64 (gData b l m)] 42)).below hb2 ((rowAt_alloc w1 _ _).alloc _).lt
  have hr2 := (rowAt_alloc (w1.alloc (.cells #[.int .i64 b, .int .i64 l, .int .i64 m, .int .i64 1, .int .i64 (1 + l), .int .i64 (gMap b), .int .i64 (1 + l + gMap b), .int .i64 (m / 2), .int .i64 (gData b l m)] 42)) #[.int .i64 b, .int .i64 l, .int .i64 m, .int .i64 1, .int .i64 (1 + l), .int .i64 (gMap b), .int .i64 n, .int .i64 (m / 2), .int .i64 (gData b l m)] 42).below hb2 (rowAt_alloc _ _ _).lt
  rw [World.size_alloc] at hr2
  obtain ⟨c0, c1, c2, c3, c4, c5, c6, c7, c8⟩ := geo_cells hr1
  obtain ⟨d0, d1, d2, d3, d4, d5, d6, d7, d8⟩ := geo_cells hr2
  go_wp2_with fail
  refine (HC3.out _).mono ?_
  rintro e w3 ⟨rfl, hb3⟩
  have B3 := below_chain B2 hb3 B2.size
  have hr3 := hr2.below hb3 hr2.lt
  clear c0 c1 c2 c3 c4 c5 c6 c7 c8 d0 d1 d2 d3 d4 d5 d6 d7 d8
  obtain ⟨d0, d1, d2, d3, d4, d5, d6, d7, d8⟩ := geo_cells hr3
  go_wp2_with fail
  refine (HC4.out _).mono ?_
  rintro e w4 ⟨rfl, hb4⟩
  have B4 := below_chain B3 hb4 B3.size
  go_wp2_with fail
  refine (alive05 _).mono ?_
  rintro e w5 ⟨rfl, hb5⟩
  have B5 := below_chain B4 hb5 B4.size
  go_wp2_with fail
  go_ret
  exact ⟨rfl, B5⟩

set_option maxHeartbeats 1000000 in
theorem odd_yes3 (w : World) (b l m x : Int) (h : geoOk b l m = true) (h0 : 0 ≤ x) (h1 : x ≤ 255) (hk : x % 6 = 3) :
    Calls Try.prog 14 #[.agg #[.int .i64 b, .int .i64 l, .int .i64 m], .int .u8 x, .int .i64 (1 + l + gMap b)] w fun e w' => e = .returned (.bool true) ∧ Below w.heap.size w w' := by
  have hm := gv_may h
  have hw : whereV b l m 1 (1 + l) (gMap b) (1 + l + gMap b) (m / 2) (gData b l m) 0 = 0 := by
    obtain ⟨f1, _⟩ := geoOk_iff.1 h
    unfold whereV
    rw [if_pos ⟨hm, by decide, by omega⟩, if_pos (by decide)]
  obtain ⟨f1, f2, f3, f4, f5, f6, f7, f8⟩ := geoOk_iff.1 h
  have HC1 := Lib.hid (fun W => of_yes b l m W h)
  have HC2 : Hid (∀ W, Calls Try.prog 27 #[gv b l m 1 (1 + l) (gMap b) (1 + l + gMap b) (m / 2) (gData b l m), .int .i64 0] W fun e w' => e = .returned (.tuple #[.int .i64 ((1 + l + gMap b) + 0 / 2), .int .i64 (0 % 2 * 64), .int .i64 0]) ∧ Below W.heap.size W w') := fun W => inode_in _ _ _ _ _ _ _ _ _ 0 W hm (by decide) (by omega)
  have HC3 : Hid (∀ W, Calls Try.prog 31 #[gv b l m 1 (1 + l) (gMap b) (1 + l + gMap b) (m / 2) (gData b l m), .int .i64 0] W fun e w' => e = .returned (.int .i64 0) ∧ Below W.heap.size W w') := fun W => by have := where_in _ _ _ _ _ _ _ _ _ 0 W hm (by decide) (by omega); rwa [hw] at this
  have HC4 : Hid (∀ W, Calls Try.prog 29 #[gv b l m 1 (1 + l) (gMap b) (1 + l + gMap b) (m / 2) (gData b l m)] W (OneRun W (gData b l m))) := fun W => fixed_yes _ _ _ _ _ _ _ _ _ W hm
  clear hm h hw f1 f2 f3 f4 f5 f6 f7 f8
  go_enter Try.func14, Try.ntmps14
  go_wp2_with fail
  refine (HC1.out _).mono ?_
  rintro e w1 ⟨rfl, hb1⟩
  have B0 := (Below.refl w.heap.size w).alloc (Nat.le_refl _) (.cells #[.int .i64 b, .int .i64 l, .int .i64 m] 56)
  have B1 := below_chain B0 hb1 B0.size
  have B1a := (B1.alloc B1.size (.cells #[.int .i64 b, .int .i64 l, .int .i64 m, .int .i64 1, .int .i64 (1 + l), .int .i64 (gMap b), .int .i64 (1 + l + gMap b), .int .i64 (m / 2), .int .i64 (gData b l m)] 42))
  go_wp2_with fail
  refine (HC2.out _).mono ?_
  rintro e w2 ⟨rfl, hb2⟩
  have B2 := below_chain (B1a.alloc B1a.size (.cells #[.int .i64 b, .int .i64 l, .int .i64 m, .int .i64 1, .int .i64 (1 + l), .int .i64 (gMap b), .int .i64 (1 + l + gMap b), .int .i64 (m / 2), .int .i64 (gData b l m)] 42)) hb2 (B1a.alloc B1a.size _).size
  have hr1 := ((rowAt_alloc w1 #[.int .i64 b, .int .i64 l, .int .i64 m, .int .i64 1, .int .i64 (1 + l), .int .i64 (gMap b), .int .i64 (1 + l + gMap b), .int .i64 (m / 2), .int .i64 (gData b l m)] 42).alloc (.cells #[.int .i64 b, .int .i64 l, .int .i64 m, .int .i64 1, .int .i64 (1 + l), .int .i64 (gMap b), .int .i64 (1 + l + gMap b), .int .i64 (m / 2), .int .i64 (gData b l m)] 42)).below hb2 ((rowAt_alloc w1 _ _).alloc _).lt
  have hr2 := (rowAt_alloc (w1.alloc (.cells #[.int .i64 b, .int .i64 l, .int .i64 m, .int .i64 1, .int .i64 (1 + l), .int .i64 (gMap b), .int .i64 (1 + l + gMap b), .int .i64 (m / 2), .int .i64 (gData b l m)] 42)) #[.int .i64 b, .int .i64 l, .int .i64 m, .int .i64 1, .int .i64 (1 + l), .int .i64 (gMap b), .int .i64 (1 + l + gMap b), .int .i64 (m / 2), .int .i64 (gData b l m)] 42).below hb2 (rowAt_alloc _ _ _).lt
  rw [World.size_alloc] at hr2
  obtain ⟨c0, c1, c2, c3, c4, c5, c6, c7, c8⟩ := geo_cells hr1
  obtain ⟨d0, d1, d2, d3, d4, d5, d6, d7, d8⟩ := geo_cells hr2
  go_wp2_with fail
  refine (HC3.out _).mono ?_
  rintro e w3 ⟨rfl, hb3⟩
  have B3 := below_chain B2 hb3 B2.size
  have hr3 := hr2.below hb3 hr2.lt
  clear c0 c1 c2 c3 c4 c5 c6 c7 c8 d0 d1 d2 d3 d4 d5 d6 d7 d8
  obtain ⟨d0, d1, d2, d3, d4, d5, d6, d7, d8⟩ := geo_cells hr3
  go_wp2_with fail
  refine (HC4.out _).mono ?_
  rintro e w4 ⟨k4, rfl, hk4, hrow4, hb4⟩
  have B4 := below_chain B3 hb4 B3.size
  go_wp2_with fail
  refine (alive05 _).mono ?_
  rintro e w5 ⟨rfl, hb5⟩
  have B5 := below_chain B4 hb5 B4.size
  go_wp2_with fail
  go_ret
  exact ⟨rfl, B5⟩

set_option maxHeartbeats 1000000 in
theorem odd_no4 (w : World) (b l m x n : Int) (h : geoOk b l m = true) (h0 : 0 ≤ x) (h1 : x ≤ 255) (hk : x % 6 = 4) (hne : ¬ n = (m / 2)) :
    Calls Try.prog 14 #[.agg #[.int .i64 b, .int .i64 l, .int .i64 m], .int .u8 x, .int .i64 n] w fun e w' => e = .returned (.bool true) ∧ Below w.heap.size w w' := by
  have hm : mayB b l m 1 (1 + l) (gMap b) (1 + l + gMap b) n (gData b l m) = false := by
    rw [← Bool.not_eq_true, mayB_iff]
    intro c
    exact hne (by omega)
  have HC1 := Lib.hid (fun W => of_yes b l m W h)
  have HC2 : Hid (∀ W, Calls Try.prog 27 #[gv b l m 1 (1 + l) (gMap b) (1 + l + gMap b) n (gData b l m), .int .i64 0] W fun e w' => e = .returned (.tuple #[.int .i64 0, .int .i64 0, .int .i64 2]) ∧ Below W.heap.size W w') := fun W => inode_not _ _ _ _ _ _ _ _ _ 0 W hm
  have HC3 : Hid (∀ W, Calls Try.prog 31 #[gv b l m 1 (1 + l) (gMap b) (1 + l + gMap b) n (gData b l m), .int .i64 0] W fun e w' => e = .returned (.int .i64 (-1)) ∧ Below W.heap.size W w') := fun W => where_out _ _ _ _ _ _ _ _ _ 0 W (by rw [hm]; simp)
  have HC4 : Hid (∀ W, Calls Try.prog 29 #[gv b l m 1 (1 + l) (gMap b) (1 + l + gMap b) n (gData b l m)] W fun e w' => e = .returned (.slice none 0 0) ∧ Below W.heap.size W w') := fun W => fixed_no _ _ _ _ _ _ _ _ _ W hm
  have hne' : ¬ (m / 2) = n := fun c => hne c.symm
  clear hm h
  go_enter Try.func14, Try.ntmps14
  go_wp2_with fail
  refine (HC1.out _).mono ?_
  rintro e w1 ⟨rfl, hb1⟩
  have B0 := (Below.refl w.heap.size w).alloc (Nat.le_refl _) (.cells #[.int .i64 b, .int .i64 l, .int .i64 m] 56)
  have B1 := below_chain B0 hb1 B0.size
  have B1a := (B1.alloc B1.size (.cells #[.int .i64 b, .int .i64 l, .int .i64 m, .int .i64 1, .int .i64 (1 + l), .int .i64 (gMap b), .int .i64 (1 + l + gMap b), .int .i64 (m / 2), .int .i64 (gData b l m)] 42))
  go_wp2_with fail
  refine (HC2.out _).mono ?_
  rintro e w2 ⟨rfl, hb2⟩
  have B2 := below_chain (B1a.alloc B1a.size (.cells #[.int .i64 b, .int .i64 l, .int .i64 m, .int .i64 1, .int .i64 (1 + l), .int .i64 (gMap b), .int .i64 (1 + l + gMap b), .int .i64 n, .int .i64 (gData b l m)] 42)) hb2 (B1a.alloc B1a.size _).size
  have hr1 := ((rowAt_alloc w1 #[.int .i64 b, .int .i64 l, .int .i64 m, .int .i64 1, .int .i64 (1 + l), .int .i64 (gMap b), .int .i64 (1 + l + gMap b), .int .i64 (m / 2), .int .i64 (gData b l m)] 42).alloc (.cells #[.int .i64 b, .int .i64 l, .int .i64 m, .int .i64 1, .int .i64 (1 + l), .int .i64 (gMap b), .int .i64 (1 + l + gMap b), .int .i64 n, .int .i64 (gData b l m)] 42)).below hb2 ((rowAt_alloc w1 _ _).alloc _).lt
  have hr2 := (rowAt_alloc (w1.alloc (.cells #[.int .i64 b, .int .i64 l, .int .i64 m, .int .i64 1, .int .i64 (1 + l), .int .i64 (gMap b), .int .i64 (1 + l + gMap b), .int .i64 (m / 2), .int .i64 (gData b l m)] 42)) #[.int .i64 b, .int .i64 l, .int .i64 m, .int .i64 1, .int .i64 (1 + l), .int .i64 (gMap b), .int .i64 (1 + l + gMap b), .int .i64 n, .int .i64 (gData b l m)] 42).below hb2 (rowAt_alloc _ _ _).lt
  rw [World.size_alloc] at hr2
  obtain ⟨c0, c1, c2, c3, c4, c5, c6, c7, c8⟩ := geo_cells hr1
  obtain ⟨d0, d1, d2, d3, d4, d5, d6, d7, d8⟩ := geo_cells hr2
  go_wp2_with fail
  refine (HC3.out _).mono ?_
  rintro e w3 ⟨rfl, hb3⟩
  have B3 := below_chain B2 hb3 B2.size
  have hr3 := hr2.below hb3 hr2.lt
  clear c0 c1 c2 c3 c4 c5 c6 c7 c8 d0 d1 d2 d3 d4 d5 d6 d7 d8
  obtain ⟨d0, d1, d2, d3, d4, d5, d6, d7, d8⟩ := geo_cells hr3
  go_wp2_with fail
  refine (HC4.out _).mono ?_
  rintro e w4 ⟨rfl, hb4⟩
  have B4 := below_chain B3 hb4 B3.size
  go_wp2_with fail
  refine (alive05 _).mono ?_
  rintro e w5 ⟨rfl, hb5⟩
  have B5 := below_chain B4 hb5 B4.size
  go_wp2_with fail
  go_ret
  exact ⟨rfl, B5⟩

set_option maxHeartbeats 1000000 in
theorem odd_yes4 (w : World) (b l m x : Int) (h : geoOk b l m = true) (h0 : 0 ≤ x) (h1 : x ≤ 255) (hk : x % 6 = 4) :
    Calls Try.prog 14 #[.agg #[.int .i64 b, .int .i64 l, .int .i64 m], .int .u8 x, .int .i64 (m / 2)] w fun e w' => e = .returned (.bool true) ∧ Below w.heap.size w w' := by
  have hm := gv_may h
  have hw : whereV b l m 1 (1 + l) (gMap b) (1 + l + gMap b) (m / 2) (gData b l m) 0 = 0 := by
    obtain ⟨f1, _⟩ := geoOk_iff.1 h
    unfold whereV
    rw [if_pos ⟨hm, by decide, by omega⟩, if_pos (by decide)]
  obtain ⟨f1, f2, f3, f4, f5, f6, f7, f8⟩ := geoOk_iff.1 h
  have HC1 := Lib.hid (fun W => of_yes b l m W h)
  have HC2 : Hid (∀ W, Calls Try.prog 27 #[gv b l m 1 (1 + l) (gMap b) (1 + l + gMap b) (m / 2) (gData b l m), .int .i64 0] W fun e w' => e = .returned (.tuple #[.int .i64 ((1 + l + gMap b) + 0 / 2), .int .i64 (0 % 2 * 64), .int .i64 0]) ∧ Below W.heap.size W w') := fun W => inode_in _ _ _ _ _ _ _ _ _ 0 W hm (by decide) (by omega)
  have HC3 : Hid (∀ W, Calls Try.prog 31 #[gv b l m 1 (1 + l) (gMap b) (1 + l + gMap b) (m / 2) (gData b l m), .int .i64 0] W fun e w' => e = .returned (.int .i64 0) ∧ Below W.heap.size W w') := fun W => by have := where_in _ _ _ _ _ _ _ _ _ 0 W hm (by decide) (by omega); rwa [hw] at this
  have HC4 : Hid (∀ W, Calls Try.prog 29 #[gv b l m 1 (1 + l) (gMap b) (1 + l + gMap b) (m / 2) (gData b l m)] W (OneRun W (gData b l m))) := fun W => fixed_yes _ _ _ _ _ _ _ _ _ W hm
  clear hm h hw f1 f2 f3 f4 f5 f6 f7 f8
  go_enter Try.func14, Try.ntmps14
  go_wp2_with fail
  refine (HC1.out _).mono ?_
  rintro e w1 ⟨rfl, hb1⟩
  have B0 := (Below.refl w.heap.size w).alloc (Nat.le_refl _) (.cells #[.int .i64 b, .int .i64 l, .int .i64 m] 56)
  have B1 := below_chain B0 hb1 B0.size
  have B1a := (B1.alloc B1.size (.cells #[.int .i64 b, .int .i64 l, .int .i64 m, .int .i64 1, .int .i64 (1 + l), .int .i64 (gMap b), .int .i64 (1 + l + gMap b), .int .i64 (m / 2), .int .i64 (gData b l m)] 42))
  go_wp2_with fail
  refine (HC2.out _).mono ?_
  rintro e w2 ⟨rfl, hb2⟩
  have B2 := below_chain (B1a.alloc B1a.size (.cells #[.int .i64 b, .int .i64 l, .int .i64 m, .int .i64 1, .int .i64 (1 + l), .int .i64 (gMap b), .int .i64 (1 + l + gMap b), .int .i64 (m / 2), .int .i64 (gData b l m)] 42)) hb2 (B1a.alloc B1a.size _).size
  have hr1 := ((rowAt_alloc w1 #[.int .i64 b, .int .i64 l, .int .i64 m, .int .i64 1, .int .i64 (1 + l), .int .i64 (gMap b), .int .i64 (1 + l + gMap b), .int .i64 (m / 2), .int .i64 (gData b l m)] 42).alloc (.cells #[.int .i64 b, .int .i64 l, .int .i64 m, .int .i64 1, .int .i64 (1 + l), .int .i64 (gMap b), .int .i64 (1 + l + gMap b), .int .i64 (m / 2), .int .i64 (gData b l m)] 42)).below hb2 ((rowAt_alloc w1 _ _).alloc _).lt
  have hr2 := (rowAt_alloc (w1.alloc (.cells #[.int .i64 b, .int .i64 l, .int .i64 m, .int .i64 1, .int .i64 (1 + l), .int .i64 (gMap b), .int .i64 (1 + l + gMap b), .int .i64 (m / 2), .int .i64 (gData b l m)] 42)) #[.int .i64 b, .int .i64 l, .int .i64 m, .int .i64 1, .int .i64 (1 + l), .int .i64 (gMap b), .int .i64 (1 + l + gMap b), .int .i64 (m / 2), .int .i64 (gData b l m)] 42).below hb2 (rowAt_alloc _ _ _).lt
  rw [World.size_alloc] at hr2
  obtain ⟨c0, c1, c2, c3, c4, c5, c6, c7, c8⟩ := geo_cells hr1
  obtain ⟨d0, d1, d2, d3, d4, d5, d6, d7, d8⟩ := geo_cells hr2
  go_wp2_with fail
  refine (HC3.out _).mono ?_
  rintro e w3 ⟨rfl, hb3⟩
  have B3 := below_chain B2 hb3 B2.size
  have hr3 := hr2.below hb3 hr2.lt
  clear c0 c1 c2 c3 c4 c5 c6 c7 c8 d0 d1 d2 d3 d4 d5 d6 d7 d8
  obtain ⟨d0, d1, d2, d3, d4, d5, d6, d7, d8⟩ := geo_cells hr3
  go_wp2_with fail
  refine (HC4.out _).mono ?_
  rintro e w4 ⟨k4, rfl, hk4, hrow4, hb4⟩
  have B4 := below_chain B3 hb4 B3.size
  go_wp2_with fail
  refine (alive05 _).mono ?_
  rintro e w5 ⟨rfl, hb5⟩
  have B5 := below_chain B4 hb5 B4.size
  go_wp2_with fail
  go_ret
  exact ⟨rfl, B5⟩

set_option maxHeartbeats 1000000 in
theorem odd_no5 (w : World) (b l m x n : Int) (h : geoOk b l m = true) (h0 : 0 ≤ x) (h1 : x ≤ 255) (hk : x % 6 = 5) (hne : ¬ n = (gData b l m)) :
    Calls Try.prog 14 #[.agg #[.int .i64 b, .int .i64 l, .int .i64 m], .int .u8 x, .int .i64 n] w fun e w' => e = .returned (.bool true) ∧ Below w.heap.size w w' := by
  have hm : mayB b l m 1 (1 + l) (gMap b) (1 + l + gMap b) (m / 2) n = false := by
    rw [← Bool.not_eq_true, mayB_iff]
    intro c
    exact hne (by omega)
  have HC1 := Lib.hid (fun W => of_yes b l m W h)
  have HC2 : Hid (∀ W, Calls Try.prog 27 #[gv b l m 1 (1 + l) (gMap b) (1 + l + gMap b) (m / 2) n, .int .i64 0] W fun e w' => e = .returned (.tuple #[.int .i64 0, .int .i64 0, .int .i64 2]) ∧ Below W.heap.size W w') := fun W => inode_not _ _ _ _ _ _ _ _ _ 0 W hm
  have HC3 : Hid (∀ W, Calls Try.prog 31 #[gv b l m 1 (1 + l) (gMap b) (1 + l + gMap b) (m / 2) n, .int .i64 0] W fun e w' => e = .returned (.int .i64 (-1)) ∧ Below W.heap.size W w') := fun W => where_out _ _ _ _ _ _ _ _ _ 0 W (by rw [hm]; simp)
  have HC4 : Hid (∀ W, Calls Try.prog 29 #[gv b l m 1 (1 + l) (gMap b) (1 + l + gMap b) (m / 2) n] W fun e w' => e = .returned (.slice none 0 0) ∧ Below W.heap.size W w') := fun W => fixed_no _ _ _ _ _ _ _ _ _ W hm
  have hne' : ¬ (gData b l m) = n := fun c => hne c.symm
  clear hm h
  go_enter Try.func14, Try.ntmps14
  go_wp2_with fail
  refine (HC1.out _).mono ?_
  rintro e w1 ⟨rfl, hb1⟩
  have B0 := (Below.refl w.heap.size w).alloc (Nat.le_refl _) (.cells #[.int .i64 b, .int .i64 l, .int .i64 m] 56)
  have B1 := below_chain B0 hb1 B0.size
  have B1a := (B1.alloc B1.size (.cells #[.int .i64 b, .int .i64 l, .int .i64 m, .int .i64 1, .int .i64 (1 + l), .int .i64 (gMap b), .int .i64 (1 + l + gMap b), .int .i64 (m / 2), .int .i64 (gData b l m)] 42))
  go_wp2_with fail
  refine (HC2.out _).mono ?_
  rintro e w2 ⟨rfl, hb2⟩
  have B2 := below_chain (B1a.alloc B1a.size (.cells #[.int .i64 b, .int .i64 l, .int .i64 m, .int .i64 1, .int .i64 (1 + l), .int .i64 (gMap b), .int .i64 (1 + l + gMap b), .int .i64 (m / 2), .int .i64 n] 42)) hb2 (B1a.alloc B1a.size _).size
  have hr1 := ((rowAt_alloc w1 #[.int .i64 b, .int .i64 l, .int .i64 m, .int .i64 1, .int .i64 (1 + l), .int .i64 (gMap b), .int .i64 (1 + l + gMap b), .int .i64 (m / 2), .int .i64 (gData b l m)] 42).alloc (.cells #[.int .i64 b, .int .i64 l, .int .i64 m, .int .i64 1, .int .i64 (1 + l), .int .i64 (gMap b), .int .i64 (1 + l + gMap b), .int .i64 (m / 2), .int .i64 n] 42)).below hb2 ((rowAt_alloc w1 _ _).alloc _).lt
  have hr2 := (rowAt_alloc (w1.alloc (.cells #[.int .i64 b, .int .i64 l, .int .i64 m, .int .i64 1, .int .i64 (1 + l), .int .i64 (gMap b), .int .i64 (1 + l + gMap b), .int .i64 (m / 2), .int .i64 (gData b l m)] 42)) #[.int .i64 b, .int .i64 l, .int .i64 m, .int .i64 1, .int .i64 (1 + l), .int .i64 (gMap b), .int .i64 (1 + l + gMap b), .int .i64 (m / 2), .int .i64 n] 42).below hb2 (rowAt_alloc _ _ _).lt
  rw [World.size_alloc] at hr2
  obtain ⟨c0, c1, c2, c3, c4, c5, c6, c7, c8⟩ := geo_cells hr1
  obtain ⟨d0, d1, d2, d3, d4, d5, d6, d7, d8⟩ := geo_cells hr2
  go_wp2_with fail
  refine (HC3.out _).mono ?_
  rintro e w3 ⟨rfl, hb3⟩
  have B3 := below_chain B2 hb3 B2.size
  have hr3 := hr2.below hb3 hr2.lt
  clear c0 c1 c2 c3 c4 c5 c6 c7 c8 d0 d1 d2 d3 d4 d5 d6 d7 d8
  obtain ⟨d0, d1, d2, d3, d4, d5, d6, d7, d8⟩ := geo_cells hr3
  go_wp2_with fail
  refine (HC4.out _).mono ?_
  rintro e w4 ⟨rfl, hb4⟩
  have B4 := below_chain B3 hb4 B3.size
  go_wp2_with fail
  refine (alive05 _).mono ?_
  rintro e w5 ⟨rfl, hb5⟩
  have B5 := below_chain B4 hb5 B4.size
  go_wp2_with fail
  go_ret
  exact ⟨rfl, B5⟩

set_option maxHeartbeats 1000000 in
theorem odd_yes5 (w : World) (b l m x : Int) (h : geoOk b l m = true) (h0 : 0 ≤ x) (h1 : x ≤ 255) (hk : x % 6 = 5) :
    Calls Try.prog 14 #[.agg #[.int .i64 b, .int .i64 l, .int .i64 m], .int .u8 x, .int .i64 (gData b l m)] w fun e w' => e = .returned (.bool true) ∧ Below w.heap.size w w' := by
  have hm := gv_may h
  have hw : whereV b l m 1 (1 + l) (gMap b) (1 + l + gMap b) (m / 2) (gData b l m) 0 = 0 := by
    obtain ⟨f1, _⟩ := geoOk_iff.1 h
    unfold whereV
    rw [if_pos ⟨hm, by decide, by omega⟩, if_pos (by decide)]
  obtain ⟨f1, f2, f3, f4, f5, f6, f7, f8⟩ := geoOk_iff.1 h
  have HC1 := Lib.hid (fun W => of_yes b l m W h)
  have HC2 : Hid (∀ W, Calls Try.prog 27 #[gv b l m 1 (1 + l) (gMap b) (1 + l + gMap b) (m / 2) (gData b l m), .int .i64 0] W fun e w' => e = .returned (.tuple #[.int .i64 ((1 + l + gMap b) + 0 / 2), .int .i64 (0 % 2 * 64), .int .i64 0]) ∧ Below W.heap.size W w') := fun W => inode_in _ _ _ _ _ _ _ _ _ 0 W hm (by decide) (by omega)
  have HC3 : Hid (∀ W, Calls Try.prog 31 #[gv b l m 1 (1 + l) (gMap b) (1 + l + gMap b) (m / 2) (gData b l m), .int .i64 0] W fun e w' => e = .returned (.int .i64 0) ∧ Below W.heap.size W w') := fun W => by have := where_in _ _ _ _ _ _ _ _ _ 0 W hm (by decide) (by omega); rwa [hw] at this
  have HC4 : Hid (∀ W, Calls Try.prog 29 #[gv b l m 1 (1 + l) (gMap b) (1 + l + gMap b) (m / 2) (gData b l m)] W (OneRun W (gData b l m))) := fun W => fixed_yes _ _ _ _ _ _ _ _ _ W hm
  clear hm h hw f1 f2 f3 f4 f5 f6 f7 f8
  go_enter Try.func14, Try.ntmps14
  go_wp2_with fail
  refine (HC1.out _).mono ?_
  rintro e w1 ⟨rfl, hb1⟩
  have B0 := (Below.refl w.heap.size w).alloc (Nat.le_refl _) (.cells #[.int .i64 b, .int .i64 l, .int .i64 m] 56)
  have B1 := below_chain B0 hb1 B0.size
  have B1a := (B1.alloc B1.size (.cells #[.int .i64 b, .int .i64 l, .int .i64 m, .int .i64 1, .int .i64 (1 + l), .int .i64 (gMap b), .int .i64 (1 + l + gMap b), .int .i64 (m / 2), .int .i64 (gData b l m)] 42))
  go_wp2_with fail
  refine (HC2.out _).mono ?_
  rintro e w2 ⟨rfl, hb2⟩
  have B2 := below_chain (B1a.alloc B1a.size (.cells #[.int .i64 b, .int .i64 l, .int .i64 m, .int .i64 1, .int .i64 (1 + l), .int .i64 (gMap b), .int .i64 (1 + l + gMap b), .int .i64 (m / 2), .int .i64 (gData b l m)] 42)) hb2 (B1a.alloc B1a.size _).size
  have hr1 := ((rowAt_alloc w1 #[.int .i64 b, .int .i64 l, .int .i64 m, .int .i64 1, .int .i64 (1 + l), .int .i64 (gMap b), .int .i64 (1 + l + gMap b), .int .i64 (m / 2), .int .i64 (gData b l m)] 42).alloc (.cells #[.int .i64 b, .int .i64 l, .int .i64 m, .int .i64 1, .int .i64 (1 + l), .int .i64 (gMap b), .int .i64 (1 + l + gMap b), .int .i64 (m / 2), .int .i64 (gData b l m)] 42)).below hb2 ((rowAt_alloc w1 _ _).alloc _).lt
  have hr2 := (rowAt_alloc (w1.alloc (.cells #[.int .i64 b, .int .i64 l, .int .i64 m, .int .i64 1, .int .i64 (1 + l), .int .i64 (gMap b), .int .i64 (1 + l + gMap b), .int .i64 (m / 2), .int .i64 (gData b l m)] 42)) #[.int .i64 b, .int .i64 l, .int .i64 m, .int .i64 1, .int .i64 (1 + l), .int .i64 (gMap b), .int .i64 (1 + l + gMap b), .int .i64 (m / 2), .int .i64 (gData b l m)] 42).below hb2 (rowAt_alloc _ _ _).lt
  rw [World.size_alloc] at hr2
  obtain ⟨c0, c1, c2, c3, c4, c5, c6, c7, c8⟩ := geo_cells hr1
  obtain ⟨d0, d1, d2, d3, d4, d5, d6, d7, d8⟩ := geo_cells hr2
  go_wp2_with fail
  refine (HC3.out _).mono ?_
  rintro e w3 ⟨rfl, hb3⟩
  have B3 := below_chain B2 hb3 B2.size
  have hr3 := hr2.below hb3 hr2.lt
  clear c0 c1 c2 c3 c4 c5 c6 c7 c8 d0 d1 d2 d3 d4 d5 d6 d7 d8
  obtain ⟨d0, d1, d2, d3, d4, d5, d6, d7, d8⟩ := geo_cells hr3
  go_wp2_with fail
  refine (HC4.out _).mono ?_
  rintro e w4 ⟨k4, rfl, hk4, hrow4, hb4⟩
  have B4 := below_chain B3 hb4 B3.size
  go_wp2_with fail
  refine (alive05 _).mono ?_
  rintro e w5 ⟨rfl, hb5⟩
  have B5 := below_chain B4 hb5 B4.size
  go_wp2_with fail
  go_ret
  exact ⟨rfl, B5⟩

set_option maxHeartbeats 1000000 in
theorem odd_none (w : World) (b l m x n : Int) (h : geoOk b l m = false) :
    Calls Try.prog 14 #[.agg #[.int .i64 b, .int .i64 l, .int .i64 m], .int .u8 x, .int .i64 n] w fun e w' => e = .returned (.bool true) ∧ Below w.heap.size w w' := by
  have HC1 := Lib.hid (fun W => of_no b l m W h)
  clear h
  go_enter Try.func14, Try.ntmps14
  go_wp2_with fail
  refine (HC1.out _).mono ?_
  rintro e w1 ⟨rfl, hb1⟩
  have B0 := (Below.refl w.heap.size w).alloc (Nat.le_refl _) (.cells #[.int .i64 b, .int .i64 l, .int .i64 m] 56)
  have B1 := below_chain B0 hb1 B0.size
  go_wp2_with fail
  refine (alive05 _).mono ?_
  rintro e w5 ⟨rfl, hb5⟩
  have B5 := below_chain (B1.alloc B1.size _) hb5 (B1.alloc B1.size _).size
  go_wp2_with fail
  go_ret
  exact ⟨rfl, B5⟩

theorem walk_geometryOdd (w : World) (b l m : Int) (_ : ∀ z ∈ [b, l, m], -9223372036854775808 ≤ z ∧ z ≤ 9223372036854775807) (x : Int) (h0 : 0 ≤ x) (h1 : x ≤ 255) (n : Int) (_ : -9223372036854775808 ≤ n) (_ : n ≤ 9223372036854775807) :
    Calls Try.prog 14 #[.agg #[.int .i64 b, .int .i64 l, .int .i64 m], .int .u8 x, .int .i64 n] w fun e w' => e = .returned (.bool true) ∧ Below w.heap.size w w' := by
  by_cases h : geoOk b l m = true
  · rcases (show x % 6 = 0 ∨ x % 6 = 1 ∨ x % 6 = 2 ∨ x % 6 = 3 ∨ x % 6 = 4 ∨ x % 6 = 5 by omega) with hk | hk | hk | hk | hk | hk
    · by_cases e : n = 1
      · subst e; exact odd_yes0 w b l m x h h0 h1 hk
      · exact odd_no0 w b l m x n h h0 h1 hk e
    · by_cases e : n = (1 + l)
      · subst e; exact odd_yes1 w b l m x h h0 h1 hk
      · exact odd_no1 w b l m x n h h0 h1 hk e
    · by_cases e : n = (gMap b)
      · subst e; exact odd_yes2 w b l m x h h0 h1 hk
      · exact odd_no2 w b l m x n h h0 h1 hk e
    · by_cases e : n = (1 + l + gMap b)
      · subst e; exact odd_yes3 w b l m x h h0 h1 hk
      · exact odd_no3 w b l m x n h h0 h1 hk e
    · by_cases e : n = (m / 2)
      · subst e; exact odd_yes4 w b l m x h h0 h1 hk
      · exact odd_no4 w b l m x n h h0 h1 hk e
    · by_cases e : n = (gData b l m)
      · subst e; exact odd_yes5 w b l m x h h0 h1 hk
      · exact odd_no5 w b l m x n h h0 h1 hk e
  · exact odd_none w b l m x n (by simpa using h)

/-! ### the frame (printed by mklaw.py) -/

set_option maxRecDepth 100000 in
theorem lifted_geometryOdd (os : Os) (started : os.Started) (H : Type) (enc : TypeId × Value → H) :
    ReturnsInHanded {} Try.checked os 14 .any (Rows.geometryOddSpec.pre6 enc Try.prog Try.f14 Rows.geometryOddRow.domain false) (Rows.geometryOddSpec.post enc Try.prog Try.f14 false true false false) := by
  refine law_step (C := Try.checked) (tb := 4) (by kernel_rfl) (by kernel_rfl) started (by kernel_rfl) Try.func14 rfl Try.underlying4 rfl ?_ ?_
    (ChangeSpec.witness6 (enc := enc) (C := Try.checked) false ⟨#[], #[.agg #[.int .i64 0, .int .i64 0, .int .i64 0], .int .u8 0, .int .i64 0], []⟩ 8 (by kernel_rfl) (by kernel_rfl) (by kernel_rfl) (by kernel_rfl)) ?_
  · intro ds hl
    match ds, hl with
    | [d0, d1, d2], _ => rfl
  · intro t ht
    rw [show Try.f14.params.toList = [56, 5, 3] from by rw [Try.params14]] at ht
    simp only [List.mem_cons, List.not_mem_nil, or_false] at ht
    rcases ht with rfl | rfl | rfl
    · exact ⟨by kernel_rfl, of_decide_eq_true (by kernel_rfl)⟩
    · exact ⟨by kernel_rfl, of_decide_eq_true (by kernel_rfl)⟩
    · exact ⟨by kernel_rfl, of_decide_eq_true (by kernel_rfl)⟩
  · intro W args hG
    rw [show Try.f14.params.toList = [56, 5, 3] from by rw [Try.params14]] at hG
    obtain ⟨v0, v1, v2, rfl, g0, g1, g2⟩ := gotAll_args3 hG
    obtain ⟨zs0, rfl, zl0, zh0⟩ := got_flat (k := .i64) (n := 3) (by kernel_rfl) g0
    obtain ⟨z0_0, z0_1, z0_2, rfl⟩ : ∃ z0_0 z0_1 z0_2, zs0 = [z0_0, z0_1, z0_2] := by
      match zs0, zl0 with
      | [z0_0, z0_1, z0_2], _ => exact ⟨z0_0, z0_1, z0_2, rfl⟩
    obtain ⟨a1, rfl, b1, c1⟩ := got_u8 Try.underlying5 g1
    obtain ⟨a2, rfl, b2, c2⟩ := got_i64 Try.underlying3 g2
    exact walk_geometryOdd W z0_0 z0_1 z0_2 (fun z hz => has_i64 (zh0 z hz)) a1 b1 c1 a2 b2 c2

theorem geometryOdd_over : Rows.geometryOddRow.holds Try.pinned (OpenSpec.ofChange Rows.geometryOddSpec) :=
  OpenClaim.holds_of_wide 14 Try.f14 rfl rfl rfl rfl rfl rfl rfl ⟨rfl, rfl, rfl, rfl, rfl⟩ rfl rfl rfl rfl rfl (by kernel_rfl) Try.func14 (by kernel_rfl)
    (of_decide_eq_true (by kernel_rfl)) (by unfold Func.isWrapper; first | (rw [if_pos (by decide +kernel)]; kernel_rfl) | (rw [if_neg (by decide +kernel)]; exact ⟨rfl, rfl⟩))
    (fun os started H enc _ => lifted_geometryOdd os started H enc)

theorem geometryOdd_holds : Rows.GeometryOddSaid := geometryOdd_over
#print axioms geometryOdd_holds

end Go.Proofs.Ytmljampbajjmlaa
