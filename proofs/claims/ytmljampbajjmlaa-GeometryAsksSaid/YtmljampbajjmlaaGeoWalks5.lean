/- Walks: asking a layout. -/
import Derived.Test.YtmljampbajjmlaaRows
import Derived.Test.YtmljampbajjmlaaPlainGeo
import Derived.Test.YtmljampbajjmlaaMem
import Derived.Test.YtmljampbajjmlaaAid
import Derived.Test.YtmljampbajjmlaaGeoWalks4
import Derived.WalkKit
import Derived.WalkSpells
import Derived.WalkLawsBesides
import Derived.Handy
import Derived.BigQuiet
import Derived.Deep.QuietTactic
set_option linter.unusedVariables false
set_option linter.unusedSimpArgs false
namespace Go.Proofs.Ytmljampbajjmlaa
open Go.RowKit Go.Joins


/-- where an inode stands: the three answers -/
def inodeV (b l m la ma ml ta tl da n : Int) : Value :=
  if mayB b l m la ma ml ta tl da then (if 0 ≤ n ∧ n < m then .tuple #[.int .i64 (ta + n / 2), .int .i64 (n % 2 * 64), .int .i64 0] else .tuple #[.int .i64 0, .int .i64 0, .int .i64 4])
  else .tuple #[.int .i64 0, .int .i64 0, .int .i64 2]

set_option maxHeartbeats 1000000 in
theorem inode_in (b l m la ma ml ta tl da n : Int) (w : World) (h : mayB b l m la ma ml ta tl da = true) (k0 : 0 ≤ n) (k1 : n < m) :
    Calls Try.prog 27 #[gv b l m la ma ml ta tl da, .int .i64 n] w fun e w' => e = .returned (.tuple #[.int .i64 (ta + n / 2), .int .i64 (n % 2 * 64), .int .i64 0]) ∧ Below w.heap.size w w' := by
  obtain ⟨h1, h2, h3, h4, h5, h6, h7, h8, h9, h10⟩ := mayB_facts h
  have HC := Lib.hid (fun W => by have := may_any b l m la ma ml ta tl da W; rwa [h] at this : ∀ W, Calls Try.prog 36 #[gv b l m la ma ml ta tl da] W fun e w' => e = .returned (.bool true) ∧ Below W.heap.size W w')
  clear h
  have t0 : 0 ≤ ta := by omega
  have t1 : ta ≤ 4096 := by omega
  clear h5 h6 h9
  go_enter Try.func27, Try.ntmps27
  go_wp2_with fail
  refine (HC.out _).mono ?_
  rintro e w1 ⟨rfl, hb1⟩
  have c0 := new_cell (v := .int .i64 b) hb1 0 rfl
  have c1 := new_cell (v := .int .i64 l) hb1 1 rfl
  have c2 := new_cell (v := .int .i64 m) hb1 2 rfl
  have c3 := new_cell (v := .int .i64 la) hb1 3 rfl
  have c4 := new_cell (v := .int .i64 ma) hb1 4 rfl
  have c5 := new_cell (v := .int .i64 ml) hb1 5 rfl
  have c6 := new_cell (v := .int .i64 ta) hb1 6 rfl
  have c7 := new_cell (v := .int .i64 tl) hb1 7 rfl
  have c8 := new_cell (v := .int .i64 da) hb1 8 rfl
  have B1 := below_chain ((Below.refl w.heap.size w).alloc (Nat.le_refl _) _) hb1 (by simp)
  clear hb1
  go_wp2_with fail
  go_ret3
  exact ⟨rfl, B1⟩

set_option maxHeartbeats 1000000 in
theorem inode_none (b l m la ma ml ta tl da n : Int) (w : World) (h : mayB b l m la ma ml ta tl da = true) (hr : ¬ (0 ≤ n ∧ n < m)) :
    Calls Try.prog 27 #[gv b l m la ma ml ta tl da, .int .i64 n] w fun e w' => e = .returned (.tuple #[.int .i64 0, .int .i64 0, .int .i64 4]) ∧ Below w.heap.size w w' := by
  have HC := Lib.hid (fun W => by have := may_any b l m la ma ml ta tl da W; rwa [h] at this : ∀ W, Calls Try.prog 36 #[gv b l m la ma ml ta tl da] W fun e w' => e = .returned (.bool true) ∧ Below W.heap.size W w')
  clear h
  by_cases k0 : 0 ≤ n
  all_goals
    have k1 : n < 0 ∨ m ≤ n := by omega
    clear hr
    go_enter Try.func27, Try.ntmps27
    go_wp2_with fail
    refine (HC.out _).mono ?_
    rintro e w1 ⟨rfl, hb1⟩
    have c0 := new_cell (v := .int .i64 b) hb1 0 rfl
    have c1 := new_cell (v := .int .i64 l) hb1 1 rfl
    have c2 := new_cell (v := .int .i64 m) hb1 2 rfl
    have c3 := new_cell (v := .int .i64 la) hb1 3 rfl
    have c4 := new_cell (v := .int .i64 ma) hb1 4 rfl
    have c5 := new_cell (v := .int .i64 ml) hb1 5 rfl
    have c6 := new_cell (v := .int .i64 ta) hb1 6 rfl
    have c7 := new_cell (v := .int .i64 tl) hb1 7 rfl
    have c8 := new_cell (v := .int .i64 da) hb1 8 rfl
    have B1 := below_chain ((Below.refl w.heap.size w).alloc (Nat.le_refl _) _) hb1 (by simp)
    clear hb1
    go_wp2_with fail
    go_ret3
    exact ⟨rfl, B1⟩

set_option maxHeartbeats 1000000 in
theorem inode_not (b l m la ma ml ta tl da n : Int) (w : World) (h : mayB b l m la ma ml ta tl da = false) :
    Calls Try.prog 27 #[gv b l m la ma ml ta tl da, .int .i64 n] w fun e w' => e = .returned (.tuple #[.int .i64 0, .int .i64 0, .int .i64 2]) ∧ Below w.heap.size w w' := by
  have HC := Lib.hid (fun W => by have := may_any b l m la ma ml ta tl da W; rwa [h] at this : ∀ W, Calls Try.prog 36 #[gv b l m la ma ml ta tl da] W fun e w' => e = .returned (.bool false) ∧ Below W.heap.size W w')
  clear h
  go_enter Try.func27, Try.ntmps27
  go_wp2_with fail
  refine (HC.out _).mono ?_
  rintro e w1 ⟨rfl, hb1⟩
  have c0 := new_cell (v := .int .i64 b) hb1 0 rfl
  have c1 := new_cell (v := .int .i64 l) hb1 1 rfl
  have c2 := new_cell (v := .int .i64 m) hb1 2 rfl
  have c3 := new_cell (v := .int .i64 la) hb1 3 rfl
  have c4 := new_cell (v := .int .i64 ma) hb1 4 rfl
  have c5 := new_cell (v := .int .i64 ml) hb1 5 rfl
  have c6 := new_cell (v := .int .i64 ta) hb1 6 rfl
  have c7 := new_cell (v := .int .i64 tl) hb1 7 rfl
  have c8 := new_cell (v := .int .i64 da) hb1 8 rfl
  have B1 := below_chain ((Below.refl w.heap.size w).alloc (Nat.le_refl _) _) hb1 (by simp)
  clear hb1
  go_wp2_with fail
  go_ret3
  exact ⟨rfl, B1⟩

theorem inode_any (b l m la ma ml ta tl da n : Int) (w : World) :
    Calls Try.prog 27 #[gv b l m la ma ml ta tl da, .int .i64 n] w fun e w' => e = .returned (inodeV b l m la ma ml ta tl da n) ∧ Below w.heap.size w w' := by
  unfold inodeV
  by_cases h : mayB b l m la ma ml ta tl da = true
  · rw [if_pos h]
    by_cases hr : 0 ≤ n ∧ n < m
    · rw [if_pos hr]; exact inode_in b l m la ma ml ta tl da n w h hr.1 hr.2
    · rw [if_neg hr]; exact inode_none b l m la ma ml ta tl da n w h hr
  · rw [if_neg h]; exact inode_not b l m la ma ml ta tl da n w (by simpa using h)

set_option maxHeartbeats 1000000 in
theorem rinode_in (b l m la ma ml ta tl da n : Int) (w : World) (h : mayB b l m la ma ml ta tl da = true) (k0 : 0 ≤ n) (k1 : n < m) :
    Calls Try.prog 28 #[gv b l m la ma ml ta tl da, .int .i64 n] w fun e w' => e = .returned (.tuple #[.int .i64 (ta + n / 2), .int .i64 (n % 2 * 64), .int .i64 0]) ∧ Below w.heap.size w w' := by
  obtain ⟨h1, h2, h3, h4, h5, h6, h7, h8, h9, h10⟩ := mayB_facts h
  have HC := Lib.hid (fun W => by have := rmay_any b l m la ma ml ta tl da W; rwa [h] at this : ∀ W, Calls Try.prog 37 #[gv b l m la ma ml ta tl da] W fun e w' => e = .returned (.bool true) ∧ Below W.heap.size W w')
  clear h
  have t0 : 0 ≤ ta := by omega
  have t1 : ta ≤ 4096 := by omega
  clear h5 h6 h9
  go_enter Try.func28, Try.ntmps28
  go_wp2_with fail
  refine (HC.out _).mono ?_
  rintro e w1 ⟨rfl, hb1⟩
  have c0 := new_cell (v := .int .i64 b) hb1 0 rfl
  have c1 := new_cell (v := .int .i64 l) hb1 1 rfl
  have c2 := new_cell (v := .int .i64 m) hb1 2 rfl
  have c3 := new_cell (v := .int .i64 la) hb1 3 rfl
  have c4 := new_cell (v := .int .i64 ma) hb1 4 rfl
  have c5 := new_cell (v := .int .i64 ml) hb1 5 rfl
  have c6 := new_cell (v := .int .i64 ta) hb1 6 rfl
  have c7 := new_cell (v := .int .i64 tl) hb1 7 rfl
  have c8 := new_cell (v := .int .i64 da) hb1 8 rfl
  have B1 := below_chain ((Below.refl w.heap.size w).alloc (Nat.le_refl _) _) hb1 (by simp)
  clear hb1
  go_wp2_with fail
  go_ret3
  exact ⟨rfl, B1⟩

set_option maxHeartbeats 1000000 in
theorem rinode_none (b l m la ma ml ta tl da n : Int) (w : World) (h : mayB b l m la ma ml ta tl da = true) (hr : ¬ (0 ≤ n ∧ n < m)) :
    Calls Try.prog 28 #[gv b l m la ma ml ta tl da, .int .i64 n] w fun e w' => e = .returned (.tuple #[.int .i64 0, .int .i64 0, .int .i64 4]) ∧ Below w.heap.size w w' := by
  have HC := Lib.hid (fun W => by have := rmay_any b l m la ma ml ta tl da W; rwa [h] at this : ∀ W, Calls Try.prog 37 #[gv b l m la ma ml ta tl da] W fun e w' => e = .returned (.bool true) ∧ Below W.heap.size W w')
  clear h
  by_cases k0 : 0 ≤ n
  all_goals
    have k1 : n < 0 ∨ m ≤ n := by omega
    clear hr
    go_enter Try.func28, Try.ntmps28
    go_wp2_with fail
    refine (HC.out _).mono ?_
    rintro e w1 ⟨rfl, hb1⟩
    have c0 := new_cell (v := .int .i64 b) hb1 0 rfl
    have c1 := new_cell (v := .int .i64 l) hb1 1 rfl
    have c2 := new_cell (v := .int .i64 m) hb1 2 rfl
    have c3 := new_cell (v := .int .i64 la) hb1 3 rfl
    have c4 := new_cell (v := .int .i64 ma) hb1 4 rfl
    have c5 := new_cell (v := .int .i64 ml) hb1 5 rfl
    have c6 := new_cell (v := .int .i64 ta) hb1 6 rfl
    have c7 := new_cell (v := .int .i64 tl) hb1 7 rfl
    have c8 := new_cell (v := .int .i64 da) hb1 8 rfl
    have B1 := below_chain ((Below.refl w.heap.size w).alloc (Nat.le_refl _) _) hb1 (by simp)
    clear hb1
    go_wp2_with fail
    go_ret3
    exact ⟨rfl, B1⟩

set_option maxHeartbeats 1000000 in
theorem rinode_not (b l m la ma ml ta tl da n : Int) (w : World) (h : mayB b l m la ma ml ta tl da = false) :
    Calls Try.prog 28 #[gv b l m la ma ml ta tl da, .int .i64 n] w fun e w' => e = .returned (.tuple #[.int .i64 0, .int .i64 0, .int .i64 2]) ∧ Below w.heap.size w w' := by
  have HC := Lib.hid (fun W => by have := rmay_any b l m la ma ml ta tl da W; rwa [h] at this : ∀ W, Calls Try.prog 37 #[gv b l m la ma ml ta tl da] W fun e w' => e = .returned (.bool false) ∧ Below W.heap.size W w')
  clear h
  go_enter Try.func28, Try.ntmps28
  go_wp2_with fail
  refine (HC.out _).mono ?_
  rintro e w1 ⟨rfl, hb1⟩
  have c0 := new_cell (v := .int .i64 b) hb1 0 rfl
  have c1 := new_cell (v := .int .i64 l) hb1 1 rfl
  have c2 := new_cell (v := .int .i64 m) hb1 2 rfl
  have c3 := new_cell (v := .int .i64 la) hb1 3 rfl
  have c4 := new_cell (v := .int .i64 ma) hb1 4 rfl
  have c5 := new_cell (v := .int .i64 ml) hb1 5 rfl
  have c6 := new_cell (v := .int .i64 ta) hb1 6 rfl
  have c7 := new_cell (v := .int .i64 tl) hb1 7 rfl
  have c8 := new_cell (v := .int .i64 da) hb1 8 rfl
  have B1 := below_chain ((Below.refl w.heap.size w).alloc (Nat.le_refl _) _) hb1 (by simp)
  clear hb1
  go_wp2_with fail
  go_ret3
  exact ⟨rfl, B1⟩

theorem rinode_any (b l m la ma ml ta tl da n : Int) (w : World) :
    Calls Try.prog 28 #[gv b l m la ma ml ta tl da, .int .i64 n] w fun e w' => e = .returned (inodeV b l m la ma ml ta tl da n) ∧ Below w.heap.size w w' := by
  unfold inodeV
  by_cases h : mayB b l m la ma ml ta tl da = true
  · rw [if_pos h]
    by_cases hr : 0 ≤ n ∧ n < m
    · rw [if_pos hr]; exact rinode_in b l m la ma ml ta tl da n w h hr.1 hr.2
    · rw [if_neg hr]; exact rinode_none b l m la ma ml ta tl da n w h hr
  · rw [if_neg h]; exact rinode_not b l m la ma ml ta tl da n w (by simpa using h)

/-- a slice of one run, in new memory -/
def OneRun (w : World) (da : Int) (e : Ending) (w' : World) : Prop :=
  ∃ k, e = .returned (.slice (some ⟨k, 0, none⟩) 1 1) ∧ w.heap.size ≤ k ∧ RowAt w' k [.int .i64 0, .int .i64 da] ∧ Below w.heap.size w w'

set_option maxHeartbeats 1000000 in
theorem fixed_yes (b l m la ma ml ta tl da : Int) (w : World) (h : mayB b l m la ma ml ta tl da = true) :
    Calls Try.prog 29 #[gv b l m la ma ml ta tl da] w (OneRun w da) := by
  have HC := Lib.hid (fun W => by have := may_any b l m la ma ml ta tl da W; rwa [h] at this : ∀ W, Calls Try.prog 36 #[gv b l m la ma ml ta tl da] W fun e w' => e = .returned (.bool true) ∧ Below W.heap.size W w')
  clear h
  go_enter Try.func29, Try.ntmps29
  go_wp2_with fail
  refine (HC.out _).mono ?_
  rintro e w1 ⟨rfl, hb1⟩
  have c0 := new_cell (v := .int .i64 b) hb1 0 rfl
  have c1 := new_cell (v := .int .i64 l) hb1 1 rfl
  have c2 := new_cell (v := .int .i64 m) hb1 2 rfl
  have c3 := new_cell (v := .int .i64 la) hb1 3 rfl
  have c4 := new_cell (v := .int .i64 ma) hb1 4 rfl
  have c5 := new_cell (v := .int .i64 ml) hb1 5 rfl
  have c6 := new_cell (v := .int .i64 ta) hb1 6 rfl
  have c7 := new_cell (v := .int .i64 tl) hb1 7 rfl
  have c8 := new_cell (v := .int .i64 da) hb1 8 rfl
  have B1 := below_chain ((Below.refl w.heap.size w).alloc (Nat.le_refl _) _) hb1 (by simp)
  clear hb1
  go_wp2_with fail
  go_ret
  refine ⟨_, rfl, B1.size, ?_, B1.alloc B1.size _⟩
  have := rowAt_alloc w1 #[.int .i64 0, .int .i64 da] 54
  simpa using this

set_option maxHeartbeats 1000000 in
theorem fixed_no (b l m la ma ml ta tl da : Int) (w : World) (h : mayB b l m la ma ml ta tl da = false) :
    Calls Try.prog 29 #[gv b l m la ma ml ta tl da] w fun e w' => e = .returned (.slice none 0 0) ∧ Below w.heap.size w w' := by
  have HC := Lib.hid (fun W => by have := may_any b l m la ma ml ta tl da W; rwa [h] at this : ∀ W, Calls Try.prog 36 #[gv b l m la ma ml ta tl da] W fun e w' => e = .returned (.bool false) ∧ Below W.heap.size W w')
  clear h
  go_enter Try.func29, Try.ntmps29
  go_wp2_with fail
  refine (HC.out _).mono ?_
  rintro e w1 ⟨rfl, hb1⟩
  have c0 := new_cell (v := .int .i64 b) hb1 0 rfl
  have c1 := new_cell (v := .int .i64 l) hb1 1 rfl
  have c2 := new_cell (v := .int .i64 m) hb1 2 rfl
  have c3 := new_cell (v := .int .i64 la) hb1 3 rfl
  have c4 := new_cell (v := .int .i64 ma) hb1 4 rfl
  have c5 := new_cell (v := .int .i64 ml) hb1 5 rfl
  have c6 := new_cell (v := .int .i64 ta) hb1 6 rfl
  have c7 := new_cell (v := .int .i64 tl) hb1 7 rfl
  have c8 := new_cell (v := .int .i64 da) hb1 8 rfl
  have B1 := below_chain ((Below.refl w.heap.size w).alloc (Nat.le_refl _) _) hb1 (by simp)
  clear hb1
  go_wp2_with fail
  go_ret
  exact ⟨rfl, B1⟩

set_option maxHeartbeats 1000000 in
theorem rfixed_yes (b l m la ma ml ta tl da : Int) (w : World) (h : mayB b l m la ma ml ta tl da = true) :
    Calls Try.prog 30 #[gv b l m la ma ml ta tl da] w (OneRun w da) := by
  have HC := Lib.hid (fun W => by have := rmay_any b l m la ma ml ta tl da W; rwa [h] at this : ∀ W, Calls Try.prog 37 #[gv b l m la ma ml ta tl da] W fun e w' => e = .returned (.bool true) ∧ Below W.heap.size W w')
  clear h
  go_enter Try.func30, Try.ntmps30
  go_wp2_with fail
  refine (HC.out _).mono ?_
  rintro e w1 ⟨rfl, hb1⟩
  have c0 := new_cell (v := .int .i64 b) hb1 0 rfl
  have c1 := new_cell (v := .int .i64 l) hb1 1 rfl
  have c2 := new_cell (v := .int .i64 m) hb1 2 rfl
  have c3 := new_cell (v := .int .i64 la) hb1 3 rfl
  have c4 := new_cell (v := .int .i64 ma) hb1 4 rfl
  have c5 := new_cell (v := .int .i64 ml) hb1 5 rfl
  have c6 := new_cell (v := .int .i64 ta) hb1 6 rfl
  have c7 := new_cell (v := .int .i64 tl) hb1 7 rfl
  have c8 := new_cell (v := .int .i64 da) hb1 8 rfl
  have B1 := below_chain ((Below.refl w.heap.size w).alloc (Nat.le_refl _) _) hb1 (by simp)
  clear hb1
  go_wp2_with fail
  go_ret
  refine ⟨_, rfl, B1.size, ?_, B1.alloc B1.size _⟩
  have := rowAt_alloc w1 #[.int .i64 0, .int .i64 da] 54
  simpa using this

set_option maxHeartbeats 1000000 in
theorem rfixed_no (b l m la ma ml ta tl da : Int) (w : World) (h : mayB b l m la ma ml ta tl da = false) :
    Calls Try.prog 30 #[gv b l m la ma ml ta tl da] w fun e w' => e = .returned (.slice none 0 0) ∧ Below w.heap.size w w' := by
  have HC := Lib.hid (fun W => by have := rmay_any b l m la ma ml ta tl da W; rwa [h] at this : ∀ W, Calls Try.prog 37 #[gv b l m la ma ml ta tl da] W fun e w' => e = .returned (.bool false) ∧ Below W.heap.size W w')
  clear h
  go_enter Try.func30, Try.ntmps30
  go_wp2_with fail
  refine (HC.out _).mono ?_
  rintro e w1 ⟨rfl, hb1⟩
  have c0 := new_cell (v := .int .i64 b) hb1 0 rfl
  have c1 := new_cell (v := .int .i64 l) hb1 1 rfl
  have c2 := new_cell (v := .int .i64 m) hb1 2 rfl
  have c3 := new_cell (v := .int .i64 la) hb1 3 rfl
  have c4 := new_cell (v := .int .i64 ma) hb1 4 rfl
  have c5 := new_cell (v := .int .i64 ml) hb1 5 rfl
  have c6 := new_cell (v := .int .i64 ta) hb1 6 rfl
  have c7 := new_cell (v := .int .i64 tl) hb1 7 rfl
  have c8 := new_cell (v := .int .i64 da) hb1 8 rfl
  have B1 := below_chain ((Below.refl w.heap.size w).alloc (Nat.le_refl _) _) hb1 (by simp)
  clear hb1
  go_wp2_with fail
  go_ret
  exact ⟨rfl, B1⟩

set_option maxHeartbeats 1000000 in
theorem same_nil (w : World) : Calls Try.prog 33 #[.slice none 0 0, .slice none 0 0] w fun e w' => e = .returned (.bool true) ∧ Below w.heap.size w w' := by
  go_enter Try.func33, Try.ntmps33
  go_wp2_with fail
  go_rounds 2
  all_goals
    go_ret
    exact ⟨rfl, Below.refl _ _⟩

set_option maxHeartbeats 1000000 in
theorem same_one (w : World) (i j : Nat) (da : Int) (hi : RowAt w i [.int .i64 0, .int .i64 da]) (hj : RowAt w j [.int .i64 0, .int .i64 da]) :
    Calls Try.prog 33 #[.slice (some ⟨i, 0, none⟩) 1 1, .slice (some ⟨j, 0, none⟩) 1 1] w fun e w' => e = .returned (.bool true) ∧ Below w.heap.size w w' := by
  have a0 : w.cell? ⟨i, 0, none⟩ = some (.int .i64 0) := hi.cell 0 (by simp)
  have a1 : w.cell? ⟨i, 1, none⟩ = some (.int .i64 da) := hi.cell 1 (by simp)
  have b0 : w.cell? ⟨j, 0, none⟩ = some (.int .i64 0) := hj.cell 0 (by simp)
  have b1 : w.cell? ⟨j, 1, none⟩ = some (.int .i64 da) := hj.cell 1 (by simp)
  go_enter Try.func33, Try.ntmps33
  go_wp2_with fail
  refine wp_loop_rounds 2 ?_
  rw [rounds_succ]
  go_wp2_with fail
  go_quiet (fail)
  go_wp2_with fail
  rw [rounds_succ]
  go_wp2_with fail
  go_ret
  exact ⟨rfl, below_draws _ _ _⟩

end Go.Proofs.Ytmljampbajjmlaa
