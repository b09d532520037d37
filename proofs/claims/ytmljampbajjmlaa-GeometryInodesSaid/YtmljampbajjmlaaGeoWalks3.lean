/- Walks: asking a layout. -/
import Derived.Test.YtmljampbajjmlaaRows
import Derived.Test.YtmljampbajjmlaaPlainGeo
import Derived.Test.YtmljampbajjmlaaMem
import Derived.Test.YtmljampbajjmlaaAid
import Derived.Test.YtmljampbajjmlaaGeoWalks2
import Derived.WalkKit
import Derived.WalkSpells
import Derived.WalkLawsBesides
import Derived.Handy
import Derived.BigQuiet
import Derived.Deep.QuietTactic
set_option linter.unusedVariables false
set_option linter.unusedSimpArgs false
namespace Go.Proofs.Ytmljampbajjmlaa
open Go.RowKit Go.Joins


set_option maxHeartbeats 1000000 in
theorem may_any (b l m la ma ml ta tl da : Int) (w : World) :
    Calls Try.prog 36 #[gv b l m la ma ml ta tl da] w fun e w' => e = .returned (.bool (mayB b l m la ma ml ta tl da)) ∧ Below w.heap.size w w' := by
  by_cases h : geoOk b l m = true
  · have HC := Lib.hid (fun W => of_yes b l m W h)
    have HG := Lib.hid h
    clear h
    go_enter Try.func36, Try.ntmps36
    go_wp2_with fail
    refine (HC.out _).mono ?_
    rintro e w1 ⟨rfl, hb1⟩
    have c0 := new_cell (v := .int .i64 b) hb1 0 rfl
    have c1 := new_cell (v := .int .i64 l) hb1 1 rfl
    have c2 := new_cell (v := .int .i64 m) hb1 2 rfl
    have c3 := new_cell (v := .int .i64 la) hb1 3 rfl
    have c4 := new_cell (v := .int .i64 ma) hb1 4 rfl
    have c5 := new_cell (v := .int .i64 ml) hb1 5 rfl
    have c6 := new_cell (v := .int .i64 ta) hb1 6 rfl
    have c7 := new_cell (v := .int .i64 tl) hb1 7 rfl
    have c8 := new_cell (v := .int .i64 da) hb1 8 rfl
    have hsz : w.heap.size < w1.heap.size := by have := hb1.size; simp at this; omega
    have B1 := below_chain ((Below.refl w.heap.size w).alloc (Nat.le_refl _) _) hb1 (by simp)
    go_wp2_with fail
    all_goals
      go_ret
      refine ⟨congrArg Ending.returned (congrArg Value.bool ?_), B1.alloc B1.size _⟩
      rw [Bool.eq_iff_iff, mayB_iff]
      simp only [HG.out, true_and, Bool.false_eq_true, decide_eq_true_eq, beq_iff_eq, false_iff, true_iff]
      omega
  · rw [Bool.not_eq_true] at h
    have HC := Lib.hid (fun W => of_no b l m W h)
    have HM : Hid (mayB b l m la ma ml ta tl da = false) := by show _ = _; rw [mayB, h]; rfl
    clear h
    go_enter Try.func36, Try.ntmps36
    go_wp2_with fail
    refine (HC.out _).mono ?_
    rintro e w1 ⟨rfl, hb1⟩
    have B1 := below_chain ((Below.refl w.heap.size w).alloc (Nat.le_refl _) _) hb1 (by simp)
    go_wp2_with fail
    go_ret
    rw [HM.out]
    exact ⟨rfl, B1.alloc B1.size _⟩

set_option maxHeartbeats 1000000 in
theorem rmay_any (b l m la ma ml ta tl da : Int) (w : World) :
    Calls Try.prog 37 #[gv b l m la ma ml ta tl da] w fun e w' => e = .returned (.bool (mayB b l m la ma ml ta tl da)) ∧ Below w.heap.size w w' := by
  by_cases h : geoOk b l m = true
  · have HC := Lib.hid (fun W => rof_yes b l m W h)
    have HG := Lib.hid h
    clear h
    go_enter Try.func37, Try.ntmps37
    go_wp2_with fail
    refine (HC.out _).mono ?_
    rintro e w1 ⟨rfl, hb1⟩
    have c0 := new_cell (v := .int .i64 b) hb1 0 rfl
    have c1 := new_cell (v := .int .i64 l) hb1 1 rfl
    have c2 := new_cell (v := .int .i64 m) hb1 2 rfl
    have c3 := new_cell (v := .int .i64 la) hb1 3 rfl
    have c4 := new_cell (v := .int .i64 ma) hb1 4 rfl
    have c5 := new_cell (v := .int .i64 ml) hb1 5 rfl
    have c6 := new_cell (v := .int .i64 ta) hb1 6 rfl
    have c7 := new_cell (v := .int .i64 tl) hb1 7 rfl
    have c8 := new_cell (v := .int .i64 da) hb1 8 rfl
    have hsz : w.heap.size < w1.heap.size := by have := hb1.size; simp at this; omega
    have B1 := below_chain ((Below.refl w.heap.size w).alloc (Nat.le_refl _) _) hb1 (by simp)
    go_wp2_with fail
    all_goals
      go_ret
      refine ⟨congrArg Ending.returned (congrArg Value.bool ?_), B1.alloc B1.size _⟩
      rw [Bool.eq_iff_iff, mayB_iff]
      simp only [HG.out, true_and, Bool.false_eq_true, decide_eq_true_eq, beq_iff_eq, false_iff, true_iff]
      omega
  · rw [Bool.not_eq_true] at h
    have HC := Lib.hid (fun W => rof_no b l m W h)
    have HM : Hid (mayB b l m la ma ml ta tl da = false) := by show _ = _; rw [mayB, h]; rfl
    clear h
    go_enter Try.func37, Try.ntmps37
    go_wp2_with fail
    refine (HC.out _).mono ?_
    rintro e w1 ⟨rfl, hb1⟩
    have B1 := below_chain ((Below.refl w.heap.size w).alloc (Nat.le_refl _) _) hb1 (by simp)
    go_wp2_with fail
    go_ret
    rw [HM.out]
    exact ⟨rfl, B1.alloc B1.size _⟩

end Go.Proofs.Ytmljampbajjmlaa
