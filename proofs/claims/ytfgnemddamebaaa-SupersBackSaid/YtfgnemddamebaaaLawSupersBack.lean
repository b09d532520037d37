/- For every input the law glissadelaw10.SupersBack returns true. -/
import Derived.Test.YtfgnemddamebaaaRecWalks9
import Derived.Test.YtfgnemddamebaaaRecMask
import Derived.Test.YtfgnemddamebaaaSupersFacts2
import Derived.Test.YtfgnemddamebaaaFrame
set_option linter.unusedVariables false
set_option linter.unusedSimpArgs false
set_option maxRecDepth 100000
namespace Go.Proofs.Ytfgnemddamebaaa
open Go.RowKit Go.Joins

theorem enc_magic (xs : List Int) : magic (encV xs) = false := Bool.eq_false_iff.2 fun q => by
  rw [magic, enc_data2] at q
  simp [Lib.hasPrefix, magicS, List.isPrefixOf] at q

set_option maxHeartbeats 4000000 in
theorem supBack_11 (w : World) (b l m c i g f t n v : Int) (blk : ByteArray) (P : ByteArray) (hP : P.size = 128)
    (HE1 : Hid (∀ W, Calls Try.prog 23 #[sv b l m c i g f t n v] W fun e w' => e = .returned (.tuple #[.string P, .int .i64 0]) ∧ Below W.heap.size W w'))
    (HC1 : Hid (∀ W, Calls Try.prog 24 #[sv b l m c i g f t n v] W fun e w' => e = .returned (.bool true) ∧ Below W.heap.size W w'))
    (HD1 : Hid (∀ W, Calls Try.prog 25 #[.string P] W fun e w' => e = .returned (.tuple #[sv b l m c i g f t n v, .int .i64 0]) ∧ Below W.heap.size W w'))
    (HR : Hid (∀ W, Calls Try.prog 15 #[.string P] W (DecN8 W)))
    (q1 : ∀ w, (Op.equalIn 10000 49 (.agg #[.int .i64 b, .int .i64 l, .int .i64 m, .int .i64 c, .int .i64 i, .int .i64 g, .int .i64 f, .int .i64 t, .int .i64 n, .int .i64 v]) (.agg #[.int .i64 b, .int .i64 l, .int .i64 m, .int .i64 c, .int .i64 i, .int .i64 g, .int .i64 f, .int .i64 t, .int .i64 n, .int .i64 v])).run Try.prog w = .ok true w) (d0 d1 d2 d3 d4 d5 d6 d7 d8 d9 : Int)
    (HD2 : Hid (∀ W, Calls Try.prog 25 #[.string blk] W fun e w' => e = .returned (.tuple #[sv d0 d1 d2 d3 d4 d5 d6 d7 d8 d9, .int .i64 0]) ∧ Below W.heap.size W w'))
    (HE2 : Hid (∀ W, Calls Try.prog 23 #[sv d0 d1 d2 d3 d4 d5 d6 d7 d8 d9] W fun e w' => e = .returned (.tuple #[.string blk, .int .i64 0]) ∧ Below W.heap.size W w'))
    (HM2 : Hid (∀ W, Calls Try.prog 17 #[.string blk] W fun e w' => e = .returned (.tuple #[.string blk, .bool false]) ∧ W = w'))
    (HC2 : Hid (∀ W, Calls Try.prog 24 #[sv d0 d1 d2 d3 d4 d5 d6 d7 d8 d9] W fun e w' => e = .returned (.bool true) ∧ Below W.heap.size W w')) :
    Calls Try.prog 10 #[sv b l m c i g f t n v, .string blk] w fun e w' => e = .returned (.bool true) ∧ Below w.heap.size w w' := by
  have t1 : (blk.toList == blk.toList) = true := by simp
  have z0 := rowAt_alloc w #[.int .i64 b, .int .i64 l, .int .i64 m, .int .i64 c, .int .i64 i, .int .i64 g, .int .i64 f, .int .i64 t, .int .i64 n, .int .i64 v] 49
  have Y : Below w.heap.size w (w.alloc (.cells #[.int .i64 b, .int .i64 l, .int .i64 m, .int .i64 c, .int .i64 i, .int .i64 g, .int .i64 f, .int .i64 t, .int .i64 n, .int .i64 v] 49)) := by go_grown
  go_enter Try.func10, Try.ntmps10
  go_wp2_with fail
  refine (HE1.out _).mono ?_
  rintro e w0 ⟨rfl, hb0⟩
  have r0 := z0.below hb0 z0.lt
  have B0 := below_chain Y hb0 Y.size
  obtain ⟨c0, c1, c2, c3, c4, c5, c6, c7, c8, c9⟩ := sup_cells r0
  clear z0 Y hb0
  go_wp2_with fail
  refine (HC1.out _).mono ?_
  rintro e w1 ⟨rfl, hb1⟩
  have r1 := r0.below hb1 r0.lt
  have B1 := below_chain B0 hb1 B0.size
  clear c0 c1 c2 c3 c4 c5 c6 c7 c8 c9 r0 hb1 B0
  go_wp2_with fail
  refine (HD1.out _).mono ?_
  rintro e w2 ⟨rfl, hb2⟩
  have B2 := below_chain B1 hb2 B1.size
  have r2 := r1.below hb2 r1.lt
  have B2a := B2.alloc B2.size (.cells #[.int .i64 b, .int .i64 l, .int .i64 m, .int .i64 c, .int .i64 i, .int .i64 g, .int .i64 f, .int .i64 t, .int .i64 n, .int .i64 v] 49)
  have r2a := r2.alloc (.cells #[.int .i64 b, .int .i64 l, .int .i64 m, .int .i64 c, .int .i64 i, .int .i64 g, .int .i64 f, .int .i64 t, .int .i64 n, .int .i64 v] 49)
  have s2a := rowAt_alloc w2 #[.int .i64 b, .int .i64 l, .int .i64 m, .int .i64 c, .int .i64 i, .int .i64 g, .int .i64 f, .int .i64 t, .int .i64 n, .int .i64 v] 49
  clear r1 hb2 B1 r2
  go_wp2_with fail
  refine (HR.out _).mono ?_
  rintro e w3 ⟨rfl, hb3⟩
  have B3 := below_chain B2a hb3 B2a.size
  have r3 := r2a.below hb3 r2a.lt
  have s3 := s2a.below hb3 s2a.lt
  have B3a := B3.alloc B3.size (.cells #[.int .i64 0, .int .u64 0, .int .i64 0, .slice none 0 0, .slice none 0 0, .int .u32 0] 27)
  have L3 := r3.lt
  have M3 := s3.lt
  obtain ⟨c0, c1, c2, c3, c4, c5, c6, c7, c8, c9⟩ := sup_cells r3
  obtain ⟨e0, e1, e2, e3, e4, e5, e6, e7, e8, e9⟩ := sup_cells s3
  clear r2a s2a hb3 B2a B3
  go_wp2_with fail
  clear c0 c1 c2 c3 c4 c5 c6 c7 c8 c9 e0 e1 e2 e3 e4 e5 e6 e7 e8 e9 r3 s3 L3 M3
  refine (HD2.out _).mono ?_
  rintro e w4 ⟨rfl, hb4⟩
  have B4 := below_chain B3a hb4 B3a.size
  have B4a := B4.alloc B4.size (.cells #[.int .i64 d0, .int .i64 d1, .int .i64 d2, .int .i64 d3, .int .i64 d4, .int .i64 d5, .int .i64 d6, .int .i64 d7, .int .i64 d8, .int .i64 d9] 49)
  have r4 := rowAt_alloc w4 #[.int .i64 d0, .int .i64 d1, .int .i64 d2, .int .i64 d3, .int .i64 d4, .int .i64 d5, .int .i64 d6, .int .i64 d7, .int .i64 d8, .int .i64 d9] 49
  clear B3a hb4 B4
  go_wp2_with fail
  refine (HE2.out _).mono ?_
  rintro e w5 ⟨rfl, hb5⟩
  have B5 := below_chain B4a hb5 B4a.size
  have r5 := r4.below hb5 r4.lt
  obtain ⟨c0, c1, c2, c3, c4, c5, c6, c7, c8, c9⟩ := sup_cells r5
  clear r4 hb5 B4a
  go_wp2_with fail
  refine (HM2.out _).mono ?_
  rintro e w6 ⟨rfl, rfl⟩
  go_wp2_with fail
  refine (HC2.out _).mono ?_
  rintro e w6 ⟨rfl, hb6⟩
  have B6 := below_chain B5 hb6 B5.size
  go_wp2_with fail
  refine (alive10 _).mono ?_
  rintro e w7 ⟨rfl, hb7⟩
  have B7 := below_chain B6 hb7 B6.size
  go_wp2_with fail
  go_ret
  exact ⟨rfl, B7⟩

set_option maxHeartbeats 4000000 in
theorem supBack_10 (w : World) (b l m c i g f t n v : Int) (blk : ByteArray) (P : ByteArray) (hP : P.size = 128)
    (HE1 : Hid (∀ W, Calls Try.prog 23 #[sv b l m c i g f t n v] W fun e w' => e = .returned (.tuple #[.string P, .int .i64 0]) ∧ Below W.heap.size W w'))
    (HC1 : Hid (∀ W, Calls Try.prog 24 #[sv b l m c i g f t n v] W fun e w' => e = .returned (.bool true) ∧ Below W.heap.size W w'))
    (HD1 : Hid (∀ W, Calls Try.prog 25 #[.string P] W fun e w' => e = .returned (.tuple #[sv b l m c i g f t n v, .int .i64 0]) ∧ Below W.heap.size W w'))
    (HR : Hid (∀ W, Calls Try.prog 15 #[.string P] W (DecN8 W)))
    (q1 : ∀ w, (Op.equalIn 10000 49 (.agg #[.int .i64 b, .int .i64 l, .int .i64 m, .int .i64 c, .int .i64 i, .int .i64 g, .int .i64 f, .int .i64 t, .int .i64 n, .int .i64 v]) (.agg #[.int .i64 b, .int .i64 l, .int .i64 m, .int .i64 c, .int .i64 i, .int .i64 g, .int .i64 f, .int .i64 t, .int .i64 n, .int .i64 v])).run Try.prog w = .ok true w) 
    (HD2 : Hid (∀ W, Calls Try.prog 25 #[.string blk] W fun e w' => e = .returned (.tuple #[sv 0 0 0 0 0 0 0 0 0 0, .int .i64 80]) ∧ Below W.heap.size W w')) :
    Calls Try.prog 10 #[sv b l m c i g f t n v, .string blk] w fun e w' => e = .returned (.bool true) ∧ Below w.heap.size w w' := by
  have t1 : (blk.toList == blk.toList) = true := by simp
  have z0 := rowAt_alloc w #[.int .i64 b, .int .i64 l, .int .i64 m, .int .i64 c, .int .i64 i, .int .i64 g, .int .i64 f, .int .i64 t, .int .i64 n, .int .i64 v] 49
  have Y : Below w.heap.size w (w.alloc (.cells #[.int .i64 b, .int .i64 l, .int .i64 m, .int .i64 c, .int .i64 i, .int .i64 g, .int .i64 f, .int .i64 t, .int .i64 n, .int .i64 v] 49)) := by go_grown
  go_enter Try.func10, Try.ntmps10
  go_wp2_with fail
  refine (HE1.out _).mono ?_
  rintro e w0 ⟨rfl, hb0⟩
  have r0 := z0.below hb0 z0.lt
  have B0 := below_chain Y hb0 Y.size
  obtain ⟨c0, c1, c2, c3, c4, c5, c6, c7, c8, c9⟩ := sup_cells r0
  clear z0 Y hb0
  go_wp2_with fail
  refine (HC1.out _).mono ?_
  rintro e w1 ⟨rfl, hb1⟩
  have r1 := r0.below hb1 r0.lt
  have B1 := below_chain B0 hb1 B0.size
  clear c0 c1 c2 c3 c4 c5 c6 c7 c8 c9 r0 hb1 B0
  go_wp2_with fail
  refine (HD1.out _).mono ?_
  rintro e w2 ⟨rfl, hb2⟩
  have B2 := below_chain B1 hb2 B1.size
  have r2 := r1.below hb2 r1.lt
  have B2a := B2.alloc B2.size (.cells #[.int .i64 b, .int .i64 l, .int .i64 m, .int .i64 c, .int .i64 i, .int .i64 g, .int .i64 f, .int .i64 t, .int .i64 n, .int .i64 v] 49)
  have r2a := r2.alloc (.cells #[.int .i64 b, .int .i64 l, .int .i64 m, .int .i64 c, .int .i64 i, .int .i64 g, .int .i64 f, .int .i64 t, .int .i64 n, .int .i64 v] 49)
  have s2a := rowAt_alloc w2 #[.int .i64 b, .int .i64 l, .int .i64 m, .int .i64 c, .int .i64 i, .int .i64 g, .int .i64 f, .int .i64 t, .int .i64 n, .int .i64 v] 49
  clear r1 hb2 B1 r2
  go_wp2_with fail
  refine (HR.out _).mono ?_
  rintro e w3 ⟨rfl, hb3⟩
  have B3 := below_chain B2a hb3 B2a.size
  have r3 := r2a.below hb3 r2a.lt
  have s3 := s2a.below hb3 s2a.lt
  have B3a := B3.alloc B3.size (.cells #[.int .i64 0, .int .u64 0, .int .i64 0, .slice none 0 0, .slice none 0 0, .int .u32 0] 27)
  have L3 := r3.lt
  have M3 := s3.lt
  obtain ⟨c0, c1, c2, c3, c4, c5, c6, c7, c8, c9⟩ := sup_cells r3
  obtain ⟨e0, e1, e2, e3, e4, e5, e6, e7, e8, e9⟩ := sup_cells s3
  clear r2a s2a hb3 B2a B3
  go_wp2_with fail
  clear c0 c1 c2 c3 c4 c5 c6 c7 c8 c9 e0 e1 e2 e3 e4 e5 e6 e7 e8 e9 r3 s3 L3 M3
  refine (HD2.out _).mono ?_
  rintro e w4 ⟨rfl, hb4⟩
  have B4 := below_chain B3a hb4 B3a.size
  have B6 := B4.alloc B4.size (.cells #[.int .i64 0, .int .i64 0, .int .i64 0, .int .i64 0, .int .i64 0, .int .i64 0, .int .i64 0, .int .i64 0, .int .i64 0, .int .i64 0] 49)
  go_wp2_with fail
  refine (alive10 _).mono ?_
  rintro e w7 ⟨rfl, hb7⟩
  have B7 := below_chain B6 hb7 B6.size
  go_wp2_with fail
  go_ret
  exact ⟨rfl, B7⟩

set_option maxHeartbeats 4000000 in
theorem supBack_01 (w : World) (b l m c i g f t n v : Int) (blk : ByteArray) (P : ByteArray)
    (HE1 : Hid (∀ W, Calls Try.prog 23 #[sv b l m c i g f t n v] W fun e w' => e = .returned (.tuple #[.string P, .int .i64 2]) ∧ Below W.heap.size W w'))
    (HC1 : Hid (∀ W, Calls Try.prog 24 #[sv b l m c i g f t n v] W fun e w' => e = .returned (.bool false) ∧ Below W.heap.size W w')) (d0 d1 d2 d3 d4 d5 d6 d7 d8 d9 : Int)
    (HD2 : Hid (∀ W, Calls Try.prog 25 #[.string blk] W fun e w' => e = .returned (.tuple #[sv d0 d1 d2 d3 d4 d5 d6 d7 d8 d9, .int .i64 0]) ∧ Below W.heap.size W w'))
    (HE2 : Hid (∀ W, Calls Try.prog 23 #[sv d0 d1 d2 d3 d4 d5 d6 d7 d8 d9] W fun e w' => e = .returned (.tuple #[.string blk, .int .i64 0]) ∧ Below W.heap.size W w'))
    (HM2 : Hid (∀ W, Calls Try.prog 17 #[.string blk] W fun e w' => e = .returned (.tuple #[.string blk, .bool false]) ∧ W = w'))
    (HC2 : Hid (∀ W, Calls Try.prog 24 #[sv d0 d1 d2 d3 d4 d5 d6 d7 d8 d9] W fun e w' => e = .returned (.bool true) ∧ Below W.heap.size W w')) :
    Calls Try.prog 10 #[sv b l m c i g f t n v, .string blk] w fun e w' => e = .returned (.bool true) ∧ Below w.heap.size w w' := by
  have t1 : (blk.toList == blk.toList) = true := by simp
  have z0 := rowAt_alloc w #[.int .i64 b, .int .i64 l, .int .i64 m, .int .i64 c, .int .i64 i, .int .i64 g, .int .i64 f, .int .i64 t, .int .i64 n, .int .i64 v] 49
  have Y : Below w.heap.size w (w.alloc (.cells #[.int .i64 b, .int .i64 l, .int .i64 m, .int .i64 c, .int .i64 i, .int .i64 g, .int .i64 f, .int .i64 t, .int .i64 n, .int .i64 v] 49)) := by go_grown
  go_enter Try.func10, Try.ntmps10
  go_wp2_with fail
  refine (HE1.out _).mono ?_
  rintro e w0 ⟨rfl, hb0⟩
  have r0 := z0.below hb0 z0.lt
  have B0 := below_chain Y hb0 Y.size
  obtain ⟨c0, c1, c2, c3, c4, c5, c6, c7, c8, c9⟩ := sup_cells r0
  clear z0 Y hb0
  go_wp2_with fail
  refine (HC1.out _).mono ?_
  rintro e w1 ⟨rfl, hb1⟩
  have r1 := r0.below hb1 r0.lt
  have B1 := below_chain B0 hb1 B0.size
  clear c0 c1 c2 c3 c4 c5 c6 c7 c8 c9 r0 hb1 B0
  have B3a := B1
  go_wp2_with fail
  refine (HD2.out _).mono ?_
  rintro e w4 ⟨rfl, hb4⟩
  have B4 := below_chain B3a hb4 B3a.size
  have B4a := B4.alloc B4.size (.cells #[.int .i64 d0, .int .i64 d1, .int .i64 d2, .int .i64 d3, .int .i64 d4, .int .i64 d5, .int .i64 d6, .int .i64 d7, .int .i64 d8, .int .i64 d9] 49)
  have r4 := rowAt_alloc w4 #[.int .i64 d0, .int .i64 d1, .int .i64 d2, .int .i64 d3, .int .i64 d4, .int .i64 d5, .int .i64 d6, .int .i64 d7, .int .i64 d8, .int .i64 d9] 49
  clear B3a hb4 B4
  go_wp2_with fail
  refine (HE2.out _).mono ?_
  rintro e w5 ⟨rfl, hb5⟩
  have B5 := below_chain B4a hb5 B4a.size
  have r5 := r4.below hb5 r4.lt
  obtain ⟨c0, c1, c2, c3, c4, c5, c6, c7, c8, c9⟩ := sup_cells r5
  clear r4 hb5 B4a
  go_wp2_with fail
  refine (HM2.out _).mono ?_
  rintro e w6 ⟨rfl, rfl⟩
  go_wp2_with fail
  refine (HC2.out _).mono ?_
  rintro e w6 ⟨rfl, hb6⟩
  have B6 := below_chain B5 hb6 B5.size
  go_wp2_with fail
  refine (alive10 _).mono ?_
  rintro e w7 ⟨rfl, hb7⟩
  have B7 := below_chain B6 hb7 B6.size
  go_wp2_with fail
  go_ret
  exact ⟨rfl, B7⟩

set_option maxHeartbeats 4000000 in
theorem supBack_00 (w : World) (b l m c i g f t n v : Int) (blk : ByteArray) (P : ByteArray)
    (HE1 : Hid (∀ W, Calls Try.prog 23 #[sv b l m c i g f t n v] W fun e w' => e = .returned (.tuple #[.string P, .int .i64 2]) ∧ Below W.heap.size W w'))
    (HC1 : Hid (∀ W, Calls Try.prog 24 #[sv b l m c i g f t n v] W fun e w' => e = .returned (.bool false) ∧ Below W.heap.size W w')) 
    (HD2 : Hid (∀ W, Calls Try.prog 25 #[.string blk] W fun e w' => e = .returned (.tuple #[sv 0 0 0 0 0 0 0 0 0 0, .int .i64 80]) ∧ Below W.heap.size W w')) :
    Calls Try.prog 10 #[sv b l m c i g f t n v, .string blk] w fun e w' => e = .returned (.bool true) ∧ Below w.heap.size w w' := by
  have t1 : (blk.toList == blk.toList) = true := by simp
  have z0 := rowAt_alloc w #[.int .i64 b, .int .i64 l, .int .i64 m, .int .i64 c, .int .i64 i, .int .i64 g, .int .i64 f, .int .i64 t, .int .i64 n, .int .i64 v] 49
  have Y : Below w.heap.size w (w.alloc (.cells #[.int .i64 b, .int .i64 l, .int .i64 m, .int .i64 c, .int .i64 i, .int .i64 g, .int .i64 f, .int .i64 t, .int .i64 n, .int .i64 v] 49)) := by go_grown
  go_enter Try.func10, Try.ntmps10
  go_wp2_with fail
  refine (HE1.out _).mono ?_
  rintro e w0 ⟨rfl, hb0⟩
  have r0 := z0.below hb0 z0.lt
  have B0 := below_chain Y hb0 Y.size
  obtain ⟨c0, c1, c2, c3, c4, c5, c6, c7, c8, c9⟩ := sup_cells r0
  clear z0 Y hb0
  go_wp2_with fail
  refine (HC1.out _).mono ?_
  rintro e w1 ⟨rfl, hb1⟩
  have r1 := r0.below hb1 r0.lt
  have B1 := below_chain B0 hb1 B0.size
  clear c0 c1 c2 c3 c4 c5 c6 c7 c8 c9 r0 hb1 B0
  have B3a := B1
  go_wp2_with fail
  refine (HD2.out _).mono ?_
  rintro e w4 ⟨rfl, hb4⟩
  have B4 := below_chain B3a hb4 B3a.size
  have B6 := B4.alloc B4.size (.cells #[.int .i64 0, .int .i64 0, .int .i64 0, .int .i64 0, .int .i64 0, .int .i64 0, .int .i64 0, .int .i64 0, .int .i64 0, .int .i64 0] 49)
  go_wp2_with fail
  refine (alive10 _).mono ?_
  rintro e w7 ⟨rfl, hb7⟩
  have B7 := below_chain B6 hb7 B6.size
  go_wp2_with fail
  go_ret
  exact ⟨rfl, B7⟩

theorem walk_supersBack (w : World) (b l m c i g f t n v : Int) (_ : ∀ z ∈ [b, l, m, c, i, g, f, t, n, v], -9223372036854775808 ≤ z ∧ z ≤ 9223372036854775807) (blk : ByteArray) (hs0 : blk.size ≤ 140737488351232) :
    Calls Try.prog 10 #[sv b l m c i g f t n v, .string blk] w fun e w' => e = .returned (.bool true) ∧ Below w.heap.size w w' := by
  have hs := size_le_maxLen hs0
  have Q1 : ∀ W, (Op.equalIn 10000 49 (.agg #[.int .i64 b, .int .i64 l, .int .i64 m, .int .i64 c, .int .i64 i, .int .i64 g, .int .i64 f, .int .i64 t, .int .i64 n, .int .i64 v]) (.agg #[.int .i64 b, .int .i64 l, .int .i64 m, .int .i64 c, .int .i64 i, .int .i64 g, .int .i64 f, .int .i64 t, .int .i64 n, .int .i64 v])).run Try.prog W = .ok true W := by
    intro W
    rw [eq_super2]
    simp
  have two : decOk blk = true → (∀ W, Calls Try.prog 23 #[sv (dec blk 0) (dec blk 1) (dec blk 2) (dec blk 3) (dec blk 4) (dec blk 5) (dec blk 6) (dec blk 7) (dec blk 8) (dec blk 9)] W fun e w' => e = .returned (.tuple #[.string blk, .int .i64 0]) ∧ Below W.heap.size W w') ∧ (∀ W, Calls Try.prog 17 #[.string blk] W fun e w' => e = .returned (.tuple #[.string blk, .bool false]) ∧ W = w') ∧ (∀ W, Calls Try.prog 24 #[sv (dec blk 0) (dec blk 1) (dec blk 2) (dec blk 3) (dec blk 4) (dec blk 5) (dec blk 6) (dec blk 7) (dec blk 8) (dec blk 9)] W fun e w' => e = .returned (.bool true) ∧ Below W.heap.size W w') := by
    intro hd
    have hb := decOk_back hd
    have hd2 := hd
    simp only [decOk, Bool.and_eq_true] at hd2
    refine ⟨fun W => ?_, fun W => ?_, fun W => ?_⟩
    · have := enc_yes (dec blk 0) (dec blk 1) (dec blk 2) (dec blk 3) (dec blk 4) (dec blk 5) (dec blk 6) (dec blk 7) (dec blk 8) (dec blk 9) W hd2.1
      rw [hb] at this
      exact this
    · refine mask_no blk W ?_
      rw [← hb]; exact enc_magic _
    · have := check_any (dec blk 0) (dec blk 1) (dec blk 2) (dec blk 3) (dec blk 4) (dec blk 5) (dec blk 6) (dec blk 7) (dec blk 8) (dec blk 9) W
      rw [hd2.1] at this
      exact this
  by_cases h : superOk b l m c i g f t n v = true
  · have hP : (encV [b, l, m, c, i, g, f, t, n, v]).size = 128 := encV_size _ rfl
    obtain ⟨hd, e0, e1, e2, e3, e4, e5, e6, e7, e8, e9⟩ := decOk_enc b l m c i g f t n v h
    have HE1 := Lib.hid (fun W => enc_yes b l m c i g f t n v W h)
    have HC1 := Lib.hid (fun W => by have := check_any b l m c i g f t n v W; rw [h] at this; exact this : ∀ W, Calls Try.prog 24 #[sv b l m c i g f t n v] W fun e w' => e = .returned (.bool true) ∧ Below W.heap.size W w')
    have HD1 := Lib.hid (fun W => by have := dec_yes (encV [b, l, m, c, i, g, f, t, n, v]) W (by rw [hP]; decide) hd; rw [e0, e1, e2, e3, e4, e5, e6, e7, e8, e9] at this; exact this : ∀ W, Calls Try.prog 25 #[.string (encV [b, l, m, c, i, g, f, t, n, v])] W fun e w' => e = .returned (.tuple #[sv b l m c i g f t n v, .int .i64 0]) ∧ Below W.heap.size W w')
    have HR := Lib.hid (fun W => dec8_head (encV [b, l, m, c, i, g, f, t, n, v]) W hP (enc_magic _))
    cases hk : decOk blk with
    | true =>
      obtain ⟨k1, k2, k3⟩ := two hk
      exact supBack_11 w b l m c i g f t n v blk _ hP HE1 HC1 HD1 HR Q1 _ _ _ _ _ _ _ _ _ _ (Lib.hid fun W => dec_yes blk W hs hk) (Lib.hid k1) (Lib.hid k2) (Lib.hid k3)
    | false => exact supBack_10 w b l m c i g f t n v blk _ hP HE1 HC1 HD1 HR Q1 (Lib.hid fun W => dec_no blk W hs hk)
  · have h' : superOk b l m c i g f t n v = false := by simpa using h
    have HE1 := Lib.hid (fun W => enc_no b l m c i g f t n v W h')
    have HC1 := Lib.hid (fun W => by have := check_any b l m c i g f t n v W; rw [h'] at this; exact this : ∀ W, Calls Try.prog 24 #[sv b l m c i g f t n v] W fun e w' => e = .returned (.bool false) ∧ Below W.heap.size W w')
    cases hk : decOk blk with
    | true =>
      obtain ⟨k1, k2, k3⟩ := two hk
      exact supBack_01 w b l m c i g f t n v blk _ HE1 HC1 _ _ _ _ _ _ _ _ _ _ (Lib.hid fun W => dec_yes blk W hs hk) (Lib.hid k1) (Lib.hid k2) (Lib.hid k3)
    | false => exact supBack_00 w b l m c i g f t n v blk _ HE1 HC1 (Lib.hid fun W => dec_no blk W hs hk)

/-! ### the frame (printed by mklaw.py) -/

set_option maxRecDepth 100000 in
theorem lifted_supersBack (os : Os) (started : os.Started) (H : Type) (enc : TypeId × Value → H) :
    ReturnsInHanded {} Try.checked os 10 .any (Rows.supersBackSpec.pre6 enc Try.prog Try.f10 Rows.supersBackRow.domain false) (Rows.supersBackSpec.post enc Try.prog Try.f10 false true false false) := by
  refine law_step (C := Try.checked) (tb := 4) (by kernel_rfl) (by kernel_rfl) started (by kernel_rfl) Try.func10 rfl Try.underlying4 rfl ?_ ?_
    (ChangeSpec.witness6 (enc := enc) (C := Try.checked) false ⟨#[], #[.agg #[.int .i64 0, .int .i64 0, .int .i64 0, .int .i64 0, .int .i64 0, .int .i64 0, .int .i64 0, .int .i64 0, .int .i64 0, .int .i64 0], .string ByteArray.empty], []⟩ 8 (by kernel_rfl) (by kernel_rfl) (by kernel_rfl) (by kernel_rfl)) ?_
  · intro ds hl
    match ds, hl with
    | [d0, d1], _ => rfl
  · intro t ht
    rw [show Try.f10.params.toList = [49, 9] from by rw [Try.params10]] at ht
    simp only [List.mem_cons, List.not_mem_nil, or_false] at ht
    rcases ht with rfl | rfl
    · exact ⟨by kernel_rfl, of_decide_eq_true (by kernel_rfl)⟩
    · exact ⟨by kernel_rfl, of_decide_eq_true (by kernel_rfl)⟩
  · intro W args hG
    rw [show Try.f10.params.toList = [49, 9] from by rw [Try.params10]] at hG
    obtain ⟨v0, v1, rfl, g0, g1⟩ := gotAll_args2 hG
    obtain ⟨zs0, rfl, zl0, zh0⟩ := got_flat (k := .i64) (n := 10) (by kernel_rfl) g0
    obtain ⟨z0_0, z0_1, z0_2, z0_3, z0_4, z0_5, z0_6, z0_7, z0_8, z0_9, rfl⟩ : ∃ z0_0 z0_1 z0_2 z0_3 z0_4 z0_5 z0_6 z0_7 z0_8 z0_9, zs0 = [z0_0, z0_1, z0_2, z0_3, z0_4, z0_5, z0_6, z0_7, z0_8, z0_9] := by
      match zs0, zl0 with
      | [z0_0, z0_1, z0_2, z0_3, z0_4, z0_5, z0_6, z0_7, z0_8, z0_9], _ => exact ⟨z0_0, z0_1, z0_2, z0_3, z0_4, z0_5, z0_6, z0_7, z0_8, z0_9, rfl⟩
    obtain ⟨a1, rfl, b1⟩ := got_string Try.underlying9 g1
    exact walk_supersBack W z0_0 z0_1 z0_2 z0_3 z0_4 z0_5 z0_6 z0_7 z0_8 z0_9 (fun z hz => has_i64 (zh0 z hz)) a1 b1

theorem supersBack_over : Rows.supersBackRow.holds Try.pinned (OpenSpec.ofChange Rows.supersBackSpec) :=
  OpenClaim.holds_of_wide 10 Try.f10 rfl rfl rfl rfl rfl rfl rfl ⟨rfl, rfl, rfl, rfl, rfl⟩ rfl rfl rfl rfl rfl (by kernel_rfl) Try.func10 (by kernel_rfl)
    (of_decide_eq_true (by kernel_rfl)) (by unfold Func.isWrapper; first | (rw [if_pos (by decide +kernel)]; kernel_rfl) | (rw [if_neg (by decide +kernel)]; exact ⟨rfl, rfl⟩))
    (fun os started H enc _ => lifted_supersBack os started H enc)

theorem supersBack_holds : Rows.SupersBackSaid := supersBack_over
#print axioms supersBack_holds

end Go.Proofs.Ytfgnemddamebaaa
