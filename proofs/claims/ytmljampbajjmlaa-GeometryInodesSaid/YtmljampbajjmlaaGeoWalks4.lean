/- Walks: asking a layout. -/
import Derived.Test.YtmljampbajjmlaaRows
import Derived.Test.YtmljampbajjmlaaPlainGeo
import Derived.Test.YtmljampbajjmlaaMem
import Derived.Test.YtmljampbajjmlaaAid
import Derived.Test.YtmljampbajjmlaaGeoWalks3
import Derived.WalkKit
import Derived.WalkSpells
import Derived.WalkLawsBesides
import Derived.Handy
import Derived.BigQuiet
import Derived.Deep.QuietTactic
set_option linter.unusedVariables false
set_option linter.unusedSimpArgs false
namespace Go.Proofs.Ytmljampbajjmlaa
open Go.RowKit Go.Joins


theorem gMap_bd {b : Int} (h1 : 256 ≤ b) (h2 : b ≤ 4096) : 1 ≤ gMap b ∧ gMap b ≤ 4 := by unfold gMap; omega

/-- what is known of a layout that may be -/
theorem mayB_facts {b l m la ma ml ta tl da : Int} (h : mayB b l m la ma ml ta tl da = true) :
    256 ≤ b ∧ b ≤ 4096 ∧ 8 ≤ m ∧ m ≤ 512 ∧ m % 2 = 0 ∧ la = 1 ∧ 129 ≤ ma ∧ ma + 1 ≤ ta ∧ ta + m / 2 = da ∧ da + 16 ≤ b := by
  obtain ⟨h0, e1, e2, e3, e4, e5, e6⟩ := mayB_iff.1 h
  obtain ⟨h1, h2, h3, h4, h5, h6, h7, h8⟩ := geoOk_iff.1 h0
  have := gMap_bd h1 h2
  unfold gData at *
  omega

set_option maxHeartbeats 1000000 in
theorem where_in (b l m la ma ml ta tl da block : Int) (w : World) (h : mayB b l m la ma ml ta tl da = true) (k0 : 0 ≤ block) (k1 : block < b) :
    Calls Try.prog 31 #[gv b l m la ma ml ta tl da, .int .i64 block] w fun e w' => e = .returned (.int .i64 (whereV b l m la ma ml ta tl da block)) ∧ Below w.heap.size w w' := by
  obtain ⟨h1, h2, h3, h4, h5, h6, h7, h8, h9, h10⟩ := mayB_facts h
  have HC := Lib.hid (fun W => by have := may_any b l m la ma ml ta tl da W; rwa [h] at this : ∀ W, Calls Try.prog 36 #[gv b l m la ma ml ta tl da] W fun e w' => e = .returned (.bool true) ∧ Below W.heap.size W w')
  have HV : Hid (whereV b l m la ma ml ta tl da block = if block < la then 0 else if block < ma then 1 else if block < ta then 2 else if block < da then 3 else 4) := by
    show _ = _; unfold whereV; rw [if_pos ⟨h, k0, k1⟩]
  have i0 : ∀ w, (Instr.index 62 (.agg #[.int .i64 la, .int .i64 ma, .int .i64 ta, .int .i64 da]) (.int .i64 0)).run Try.prog w = .ok (.int .i64 la) w := fun _ => by kernel_rfl
  have i1 : ∀ w, (Instr.index 62 (.agg #[.int .i64 la, .int .i64 ma, .int .i64 ta, .int .i64 da]) (.int .i64 1)).run Try.prog w = .ok (.int .i64 ma) w := fun _ => by kernel_rfl
  have i2 : ∀ w, (Instr.index 62 (.agg #[.int .i64 la, .int .i64 ma, .int .i64 ta, .int .i64 da]) (.int .i64 2)).run Try.prog w = .ok (.int .i64 ta) w := fun _ => by kernel_rfl
  have i3 : ∀ w, (Instr.index 62 (.agg #[.int .i64 la, .int .i64 ma, .int .i64 ta, .int .i64 da]) (.int .i64 3)).run Try.prog w = .ok (.int .i64 da) w := fun _ => by kernel_rfl
  have h6' : la ≤ ma := by omega
  have h9' : ta ≤ da := by omega
  clear h h5 h6 h9
  go_enter Try.func31, Try.ntmps31
  go_wp2_with fail
  refine (HC.out _).mono ?_
  rintro e w1 ⟨rfl, hb1⟩
  have c0 := new_cell (v := .int .i64 b) hb1 0 rfl
  have c1 := new_cell (v := .int .i64 l) hb1 1 rfl
  have c2 := new_cell (v := .int .i64 m) hb1 2 rfl
  have c3 := new_cell (v := .int .i64 la) hb1 3 rfl
  have c4 := new_cell (v := .int .i64 ma) hb1 4 rfl
  have c5 := new_cell (v := .int .i64 ml) hb1 5 rfl
  have c6 := new_cell (v := .int .i64 ta) hb1 6 rfl
  have c7 := new_cell (v := .int .i64 tl) hb1 7 rfl
  have c8 := new_cell (v := .int .i64 da) hb1 8 rfl
  have B1 := below_chain ((Below.refl w.heap.size w).alloc (Nat.le_refl _) _) hb1 (by simp)
  clear hb1
  go_wp2_with fail
  go_rounds 5
  all_goals
    go_ret
    rw [HV.out]
    refine ⟨congrArg Ending.returned (congrArg (Value.int IntKind.i64) ?_), B1⟩
    repeat' split
    all_goals omega

theorem where_out (b l m la ma ml ta tl da block : Int) (w : World) (h : ¬ (mayB b l m la ma ml ta tl da = true ∧ 0 ≤ block ∧ block < b)) :
    Calls Try.prog 31 #[gv b l m la ma ml ta tl da, .int .i64 block] w fun e w' => e = .returned (.int .i64 (-1)) ∧ Below w.heap.size w w' := by
  by_cases hm : mayB b l m la ma ml ta tl da = true
  · have hr : ¬ (0 ≤ block ∧ block < b) := fun c => h ⟨hm, c.1, c.2⟩
    clear h
    have HC := Lib.hid (fun W => by have := may_any b l m la ma ml ta tl da W; rwa [hm] at this : ∀ W, Calls Try.prog 36 #[gv b l m la ma ml ta tl da] W fun e w' => e = .returned (.bool true) ∧ Below W.heap.size W w')
    clear hm
    by_cases k0 : 0 ≤ block
    · have k1 : b ≤ block := by omega
      clear hr
      go_enter Try.func31, Try.ntmps31
      go_wp2_with fail
      refine (HC.out _).mono ?_
      rintro e w1 ⟨rfl, hb1⟩
      have c0 := new_cell (v := .int .i64 b) hb1 0 rfl
      have c1 := new_cell (v := .int .i64 l) hb1 1 rfl
      have c2 := new_cell (v := .int .i64 m) hb1 2 rfl
      have c3 := new_cell (v := .int .i64 la) hb1 3 rfl
      have c4 := new_cell (v := .int .i64 ma) hb1 4 rfl
      have c5 := new_cell (v := .int .i64 ml) hb1 5 rfl
      have c6 := new_cell (v := .int .i64 ta) hb1 6 rfl
      have c7 := new_cell (v := .int .i64 tl) hb1 7 rfl
      have c8 := new_cell (v := .int .i64 da) hb1 8 rfl
      have B1 := below_chain ((Below.refl w.heap.size w).alloc (Nat.le_refl _) _) hb1 (by simp)
      clear hb1
      go_wp2_with fail
      go_ret
      exact ⟨rfl, B1⟩
    · clear hr
      go_enter Try.func31, Try.ntmps31
      go_wp2_with fail
      refine (HC.out _).mono ?_
      rintro e w1 ⟨rfl, hb1⟩
      have c0 := new_cell (v := .int .i64 b) hb1 0 rfl
      have c1 := new_cell (v := .int .i64 l) hb1 1 rfl
      have c2 := new_cell (v := .int .i64 m) hb1 2 rfl
      have c3 := new_cell (v := .int .i64 la) hb1 3 rfl
      have c4 := new_cell (v := .int .i64 ma) hb1 4 rfl
      have c5 := new_cell (v := .int .i64 ml) hb1 5 rfl
      have c6 := new_cell (v := .int .i64 ta) hb1 6 rfl
      have c7 := new_cell (v := .int .i64 tl) hb1 7 rfl
      have c8 := new_cell (v := .int .i64 da) hb1 8 rfl
      have B1 := below_chain ((Below.refl w.heap.size w).alloc (Nat.le_refl _) _) hb1 (by simp)
      clear hb1
      go_wp2_with fail
      go_ret
      exact ⟨rfl, B1⟩
  · rw [Bool.not_eq_true] at hm
    clear h
    have HC := Lib.hid (fun W => by have := may_any b l m la ma ml ta tl da W; rwa [hm] at this : ∀ W, Calls Try.prog 36 #[gv b l m la ma ml ta tl da] W fun e w' => e = .returned (.bool false) ∧ Below W.heap.size W w')
    clear hm
    go_enter Try.func31, Try.ntmps31
    go_wp2_with fail
    refine (HC.out _).mono ?_
    rintro e w1 ⟨rfl, hb1⟩
    have c0 := new_cell (v := .int .i64 b) hb1 0 rfl
    have c1 := new_cell (v := .int .i64 l) hb1 1 rfl
    have c2 := new_cell (v := .int .i64 m) hb1 2 rfl
    have c3 := new_cell (v := .int .i64 la) hb1 3 rfl
    have c4 := new_cell (v := .int .i64 ma) hb1 4 rfl
    have c5 := new_cell (v := .int .i64 ml) hb1 5 rfl
    have c6 := new_cell (v := .int .i64 ta) hb1 6 rfl
    have c7 := new_cell (v := .int .i64 tl) hb1 7 rfl
    have c8 := new_cell (v := .int .i64 da) hb1 8 rfl
    have B1 := below_chain ((Below.refl w.heap.size w).alloc (Nat.le_refl _) _) hb1 (by simp)
    clear hb1
    go_wp2_with fail
    go_ret
    exact ⟨rfl, B1⟩

theorem where_any (b l m la ma ml ta tl da block : Int) (w : World) :
    Calls Try.prog 31 #[gv b l m la ma ml ta tl da, .int .i64 block] w fun e w' => e = .returned (.int .i64 (whereV b l m la ma ml ta tl da block)) ∧ Below w.heap.size w w' := by
  by_cases h : mayB b l m la ma ml ta tl da = true ∧ 0 ≤ block ∧ block < b
  · exact where_in b l m la ma ml ta tl da block w h.1 h.2.1 h.2.2
  · have e : whereV b l m la ma ml ta tl da block = -1 := by unfold whereV; rw [if_neg h]
    rw [e]; exact where_out b l m la ma ml ta tl da block w h

set_option maxHeartbeats 1000000 in
theorem rwhere_in (b l m la ma ml ta tl da block : Int) (w : World) (h : mayB b l m la ma ml ta tl da = true) (k0 : 0 ≤ block) (k1 : block < b) :
    Calls Try.prog 32 #[gv b l m la ma ml ta tl da, .int .i64 block] w fun e w' => e = .returned (.int .i64 (whereV b l m la ma ml ta tl da block)) ∧ Below w.heap.size w w' := by
  obtain ⟨h1, h2, h3, h4, h5, h6, h7, h8, h9, h10⟩ := mayB_facts h
  have HC := Lib.hid (fun W => by have := rmay_any b l m la ma ml ta tl da W; rwa [h] at this : ∀ W, Calls Try.prog 37 #[gv b l m la ma ml ta tl da] W fun e w' => e = .returned (.bool true) ∧ Below W.heap.size W w')
  have HV : Hid (whereV b l m la ma ml ta tl da block = if block < la then 0 else if block < ma then 1 else if block < ta then 2 else if block < da then 3 else 4) := by
    show _ = _; unfold whereV; rw [if_pos ⟨h, k0, k1⟩]
  have h6' : la ≤ ma := by omega
  have h9' : ta ≤ da := by omega
  clear h h5 h6 h9
  go_enter Try.func32, Try.ntmps32
  go_wp2_with fail
  refine (HC.out _).mono ?_
  rintro e w1 ⟨rfl, hb1⟩
  have c0 := new_cell (v := .int .i64 b) hb1 0 rfl
  have c1 := new_cell (v := .int .i64 l) hb1 1 rfl
  have c2 := new_cell (v := .int .i64 m) hb1 2 rfl
  have c3 := new_cell (v := .int .i64 la) hb1 3 rfl
  have c4 := new_cell (v := .int .i64 ma) hb1 4 rfl
  have c5 := new_cell (v := .int .i64 ml) hb1 5 rfl
  have c6 := new_cell (v := .int .i64 ta) hb1 6 rfl
  have c7 := new_cell (v := .int .i64 tl) hb1 7 rfl
  have c8 := new_cell (v := .int .i64 da) hb1 8 rfl
  have B1 := below_chain ((Below.refl w.heap.size w).alloc (Nat.le_refl _) _) hb1 (by simp)
  clear hb1
  go_wp2_with fail
  all_goals
    go_ret
    rw [HV.out]
    refine ⟨congrArg Ending.returned (congrArg (Value.int IntKind.i64) ?_), B1⟩
    repeat' split
    all_goals omega

theorem rwhere_out (b l m la ma ml ta tl da block : Int) (w : World) (h : ¬ (mayB b l m la ma ml ta tl da = true ∧ 0 ≤ block ∧ block < b)) :
    Calls Try.prog 32 #[gv b l m la ma ml ta tl da, .int .i64 block] w fun e w' => e = .returned (.int .i64 (-1)) ∧ Below w.heap.size w w' := by
  by_cases hm : mayB b l m la ma ml ta tl da = true
  · have hr : ¬ (0 ≤ block ∧ block < b) := fun c => h ⟨hm, c.1, c.2⟩
    clear h
    have HC := Lib.hid (fun W => by have := rmay_any b l m la ma ml ta tl da W; rwa [hm] at this : ∀ W, Calls Try.prog 37 #[gv b l m la ma ml ta tl da] W fun e w' => e = .returned (.bool true) ∧ Below W.heap.size W w')
    clear hm
    by_cases k0 : 0 ≤ block
    · have k1 : b ≤ block := by omega
      clear hr
      go_enter Try.func32, Try.ntmps32
      go_wp2_with fail
      refine (HC.out _).mono ?_
      rintro e w1 ⟨rfl, hb1⟩
      have c0 := new_cell (v := .int .i64 b) hb1 0 rfl
      have c1 := new_cell (v := .int .i64 l) hb1 1 rfl
      have c2 := new_cell (v := .int .i64 m) hb1 2 rfl
      have c3 := new_cell (v := .int .i64 la) hb1 3 rfl
      have c4 := new_cell (v := .int .i64 ma) hb1 4 rfl
      have c5 := new_cell (v := .int .i64 ml) hb1 5 rfl
      have c6 := new_cell (v := .int .i64 ta) hb1 6 rfl
      have c7 := new_cell (v := .int .i64 tl) hb1 7 rfl
      have c8 := new_cell (v := .int .i64 da) hb1 8 rfl
      have B1 := below_chain ((Below.refl w.heap.size w).alloc (Nat.le_refl _) _) hb1 (by simp)
      clear hb1
      go_wp2_with fail
      go_ret
      exact ⟨rfl, B1⟩
    · clear hr
      go_enter Try.func32, Try.ntmps32
      go_wp2_with fail
      refine (HC.out _).mono ?_
      rintro e w1 ⟨rfl, hb1⟩
      have c0 := new_cell (v := .int .i64 b) hb1 0 rfl
      have c1 := new_cell (v := .int .i64 l) hb1 1 rfl
      have c2 := new_cell (v := .int .i64 m) hb1 2 rfl
      have c3 := new_cell (v := .int .i64 la) hb1 3 rfl
      have c4 := new_cell (v := .int .i64 ma) hb1 4 rfl
      have c5 := new_cell (v := .int .i64 ml) hb1 5 rfl
      have c6 := new_cell (v := .int .i64 ta) hb1 6 rfl
      have c7 := new_cell (v := .int .i64 tl) hb1 7 rfl
      have c8 := new_cell (v := .int .i64 da) hb1 8 rfl
      have B1 := below_chain ((Below.refl w.heap.size w).alloc (Nat.le_refl _) _) hb1 (by simp)
      clear hb1
      go_wp2_with fail
      go_ret
      exact ⟨rfl, B1⟩
  · rw [Bool.not_eq_true] at hm
    clear h
    have HC := Lib.hid (fun W => by have := rmay_any b l m la ma ml ta tl da W; rwa [hm] at this : ∀ W, Calls Try.prog 37 #[gv b l m la ma ml ta tl da] W fun e w' => e = .returned (.bool false) ∧ Below W.heap.size W w')
    clear hm
    go_enter Try.func32, Try.ntmps32
    go_wp2_with fail
    refine (HC.out _).mono ?_
    rintro e w1 ⟨rfl, hb1⟩
    have c0 := new_cell (v := .int .i64 b) hb1 0 rfl
    have c1 := new_cell (v := .int .i64 l) hb1 1 rfl
    have c2 := new_cell (v := .int .i64 m) hb1 2 rfl
    have c3 := new_cell (v := .int .i64 la) hb1 3 rfl
    have c4 := new_cell (v := .int .i64 ma) hb1 4 rfl
    have c5 := new_cell (v := .int .i64 ml) hb1 5 rfl
    have c6 := new_cell (v := .int .i64 ta) hb1 6 rfl
    have c7 := new_cell (v := .int .i64 tl) hb1 7 rfl
    have c8 := new_cell (v := .int .i64 da) hb1 8 rfl
    have B1 := below_chain ((Below.refl w.heap.size w).alloc (Nat.le_refl _) _) hb1 (by simp)
    clear hb1
    go_wp2_with fail
    go_ret
    exact ⟨rfl, B1⟩

theorem rwhere_any (b l m la ma ml ta tl da block : Int) (w : World) :
    Calls Try.prog 32 #[gv b l m la ma ml ta tl da, .int .i64 block] w fun e w' => e = .returned (.int .i64 (whereV b l m la ma ml ta tl da block)) ∧ Below w.heap.size w w' := by
  by_cases h : mayB b l m la ma ml ta tl da = true ∧ 0 ≤ block ∧ block < b
  · exact rwhere_in b l m la ma ml ta tl da block w h.1 h.2.1 h.2.2
  · have e : whereV b l m la ma ml ta tl da block = -1 := by unfold whereV; rw [if_neg h]
    rw [e]; exact rwhere_out b l m la ma ml ta tl da block w h

end Go.Proofs.Ytmljampbajjmlaa
