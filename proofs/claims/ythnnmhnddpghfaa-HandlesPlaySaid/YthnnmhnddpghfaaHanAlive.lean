/- Walks: the chapter's table of descriptors answers as it must (lives). -/
import Derived.Test.YthnnmhnddpghfaaHanWalks6
import Derived.Test.YthnnmhnddpghfaaSameInts21
set_option linter.unusedVariables false
set_option linter.unusedSimpArgs false
set_option maxRecDepth 100000
namespace Go.Proofs.Ythnnmhnddpghfaa
open Go.RowKit Go.Joins

def lvA : List Sl := zeroT.set 0 ⟨true, 7, 0⟩
def lvB : List Sl := lvA.set 1 ⟨true, 7, 0⟩
def lvC : List Sl := lvB.set 2 ⟨true, 9, 0⟩
def lvD : List Sl := lvC.set 0 Sl.none
def lvE : List Sl := lvD.set 0 ⟨true, 3, 0⟩
def lvF : List Sl := lvE.set 2 ⟨true, 9, 5⟩
theorem lv1 : tOpen zeroT 7 = (lvA, 0, 0) := by kernel_rfl
theorem lv2 : tOpen lvA 7 = (lvB, 1, 0) := by kernel_rfl
theorem lv3 : tOpen lvB 9 = (lvC, 2, 0) := by kernel_rfl
theorem lv4 : tClose lvC 0 = (lvD, 7, false, 0) := by kernel_rfl
theorem lv5 : tOpen lvD 3 = (lvE, 0, 0) := by kernel_rfl
theorem lv6 : tSeek lvE 2 5 = (lvF, 0) := by kernel_rfl
theorem lv7 : slotOf lvF 2 = some ⟨true, 9, 5⟩ := by kernel_rfl
theorem lv8 : tSeek lvF 2 (-1) = (lvF, 216) := by kernel_rfl
theorem lv9 : nodesOf lvF = [3, 7, 9] := by
  have e : openN lvF 16 = [3, 7, 9] := by kernel_rfl
  have s : ([3, 7, 9] : List Int).mergeSort (fun x y => decide (x ≤ y)) = [3, 7, 9] := List.mergeSort_of_pairwise (by decide)
  rw [nodesOf, e, s]
  rfl

set_option maxHeartbeats 4000000 in
theorem lives21 (w : World) : Calls Try.prog 8 #[] w fun e w' => e = .returned (.bool true) ∧ Below w.heap.size w w' := by
  have HC0 := Lib.hid (hnew w)
  have HC1 : Hid (∀ K W, TabAt W K true zeroT → Calls Try.prog 13 #[.pointer (some ⟨K, 0, none⟩), .int .i64 7] W fun e w' => e = .returned (.tuple #[.int .i64 0, .int .i64 0]) ∧ TabAt w' K true lvA ∧ W.grownBy w' (some K)) := fun K W hT => by have := hopen K zeroT 7 W hT; rw [lv1] at this; exact this
  have HC2 : Hid (∀ K W, TabAt W K true lvA → Calls Try.prog 13 #[.pointer (some ⟨K, 0, none⟩), .int .i64 7] W fun e w' => e = .returned (.tuple #[.int .i64 1, .int .i64 0]) ∧ TabAt w' K true lvB ∧ W.grownBy w' (some K)) := fun K W hT => by have := hopen K lvA 7 W hT; rw [lv2] at this; exact this
  have HC3 : Hid (∀ K W, TabAt W K true lvB → Calls Try.prog 13 #[.pointer (some ⟨K, 0, none⟩), .int .i64 9] W fun e w' => e = .returned (.tuple #[.int .i64 2, .int .i64 0]) ∧ TabAt w' K true lvC ∧ W.grownBy w' (some K)) := fun K W hT => by have := hopen K lvB 9 W hT; rw [lv3] at this; exact this
  have HC4 : Hid (∀ K W, TabAt W K true lvC → Calls Try.prog 15 #[.pointer (some ⟨K, 0, none⟩), .int .i64 0] W fun e w' => e = .returned (.tuple #[.int .i64 7, .bool false, .int .i64 0]) ∧ TabAt w' K true lvD ∧ W.grownBy w' (some K)) := fun K W hT => by have := hclose K lvC 0 W hT; rw [lv4] at this; exact this
  have HC5 : Hid (∀ K W, TabAt W K true lvD → Calls Try.prog 13 #[.pointer (some ⟨K, 0, none⟩), .int .i64 3] W fun e w' => e = .returned (.tuple #[.int .i64 0, .int .i64 0]) ∧ TabAt w' K true lvE ∧ W.grownBy w' (some K)) := fun K W hT => by have := hopen K lvD 3 W hT; rw [lv5] at this; exact this
  have HC6 : Hid (∀ K W, TabAt W K true lvE → Calls Try.prog 17 #[.pointer (some ⟨K, 0, none⟩), .int .i64 2, .int .i64 5] W fun e w' => e = .returned (.int .i64 0) ∧ TabAt w' K true lvF ∧ W.grownBy w' (some K)) := fun K W hT => by have := hseek K lvE 2 5 W hT; rw [lv6] at this; exact this
  have HC7 : Hid (∀ K W, TabAt W K true lvF → Calls Try.prog 11 #[.pointer (some ⟨K, 0, none⟩), .int .i64 2] W fun e w' => e = .returned (.tuple #[.int .i64 9, .int .i64 5, .int .i64 0]) ∧ Below W.heap.size W w') := fun K W hT => hget_ok K lvF 2 ⟨true, 9, 5⟩ W hT lv7
  have HC8 : Hid (∀ K W, TabAt W K true lvF → Calls Try.prog 17 #[.pointer (some ⟨K, 0, none⟩), .int .i64 2, .int .i64 (-1)] W fun e w' => e = .returned (.int .i64 216) ∧ TabAt w' K true lvF ∧ W.grownBy w' (some K)) := fun K W hT => by have := hseek K lvF 2 (-1) W hT; rw [lv8] at this; exact this
  have HC9 : Hid (∀ K W, TabAt W K true lvF → Calls Try.prog 23 #[.pointer (some ⟨K, 0, none⟩)] W fun e w' => ∃ a cap, e = .returned (.slice a 3 cap) ∧ ValS w' a [.int .i64 3, .int .i64 7, .int .i64 9] ∧ Below W.heap.size W w') := fun K W hT => by
    refine (hnodes K lvF W hT).mono ?_
    rintro e w1 ⟨a, cap, rfl, hn, hb⟩
    rw [lv9] at hn ⊢
    exact ⟨a, cap, rfl, hn.vals, hb⟩
  have HC10 : Hid (∀ a ca b cb W, ValS W a [.int .i64 3, .int .i64 7, .int .i64 9] → ValS W b [.int .i64 3, .int .i64 7, .int .i64 9] → Calls Try.prog 22 #[.slice a 3 ca, .slice b 3 cb] W fun e w' => e = .returned (.bool true) ∧ Below W.heap.size W w') := fun a ca b cb W h1 h2 => sameints_eq a b ca cb [3, 7, 9] [3, 7, 9] W (by decide) h1 h2
  go_enter Try.func8, Try.ntmps8
  go_wp2_with fail
  refine HC0.out.mono ?_
  rintro e w0 ⟨rfl, hT0, B0⟩
  go_wp2_with fail
  refine (HC1.out _ _ hT0).mono ?_
  rintro e w1 ⟨rfl, hT1, hg1⟩
  have B1 := grown_below4 B0 hg1 (fun j hj => by injection hj with hj; omega) B0.size
  clear hT0 hg1 B0
  go_wp2_with fail
  refine (HC2.out _ _ hT1).mono ?_
  rintro e w2 ⟨rfl, hT2, hg2⟩
  have B2 := grown_below4 B1 hg2 (fun j hj => by injection hj with hj; omega) B1.size
  clear hT1 hg2 B1
  go_wp2_with fail
  refine (HC3.out _ _ hT2).mono ?_
  rintro e w3 ⟨rfl, hT3, hg3⟩
  have B3 := grown_below4 B2 hg3 (fun j hj => by injection hj with hj; omega) B2.size
  clear hT2 hg3 B2
  go_wp2_with fail
  refine (HC4.out _ _ hT3).mono ?_
  rintro e w4 ⟨rfl, hT4, hg4⟩
  have B4 := grown_below4 B3 hg4 (fun j hj => by injection hj with hj; omega) B3.size
  clear hT3 hg4 B3
  go_wp2_with fail
  refine (HC5.out _ _ hT4).mono ?_
  rintro e w5 ⟨rfl, hT5, hg5⟩
  have B5 := grown_below4 B4 hg5 (fun j hj => by injection hj with hj; omega) B4.size
  clear hT4 hg5 B4
  go_wp2_with fail
  refine (HC6.out _ _ hT5).mono ?_
  rintro e w6 ⟨rfl, hT6, hg6⟩
  have B6 := grown_below4 B5 hg6 (fun j hj => by injection hj with hj; omega) B5.size
  clear hT5 hg6 B5
  go_wp2_with fail
  refine (HC7.out _ _ hT6).mono ?_
  rintro e w7 ⟨rfl, hb7⟩
  have hT7 := hT6.below hb7 (Nat.le_refl _)
  have B7 := below_chain B6 hb7 B6.size
  clear hT6 hb7 B6
  go_wp2_with fail
  refine (HC8.out _ _ hT7).mono ?_
  rintro e w8 ⟨rfl, hT8, hg8⟩
  have B8 := grown_below4 B7 hg8 (fun j hj => by injection hj with hj; omega) B7.size
  clear hT7 hg8 B7
  go_wp2_with fail
  refine (HC9.out _ _ hT8).mono ?_
  rintro e w9 ⟨a9, cap9, rfl, hV9, hb9⟩
  have B9 := below_chain B8 hb9 B8.size
  have B9a := B9.alloc B9.size (.cells #[.int .i64 3, .int .i64 7, .int .i64 9] 3)
  have hV9a := hV9.alloc (.cells #[.int .i64 3, .int .i64 7, .int .i64 9] 3)
  have hR9 := rowAt_alloc w9 #[.int .i64 3, .int .i64 7, .int .i64 9] 3
  have hW9 : ValS (w9.alloc (.cells #[.int .i64 3, .int .i64 7, .int .i64 9] 3)) (some ⟨w9.heap.size, 0, none⟩) [.int .i64 3, .int .i64 7, .int .i64 9] := .inr ⟨_, _, rfl, valAt_row hR9⟩
  clear hT8 hb9 hV9 hR9 B8 B9
  go_wp2_with fail
  refine (HC10.out _ _ _ _ _ hV9a hW9).mono ?_
  rintro e w10 ⟨rfl, hb10⟩
  have B10 := below_chain B9a hb10 B9a.size
  clear hb10 B9a hV9a hW9
  go_wp2_with fail
  go_ret
  exact ⟨rfl, B10⟩

end Go.Proofs.Ythnnmhnddpghfaa
