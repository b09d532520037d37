/- Walks: the document's answer: may a record be? -/
import Derived.Test.YtfgnemddamebaaaRecRef
import Derived.Test.YtfgnemddamebaaaRecWalks2
set_option linter.unusedVariables false
set_option linter.unusedSimpArgs false
set_option maxRecDepth 100000
namespace Go.Proofs.Ytfgnemddamebaaa
open Go.RowKit Go.Joins

set_option maxHeartbeats 2000000 in
theorem rmay_k1 (q t : Int) (ah : Option Addr) (n ch : Nat) (am : Option Addr) (m cm : Nat) (s : Int) (r24 r28 : Bool) (w : World) (hn : n ≤ 100000) (hm : m ≤ 100000) :
    Calls Try.prog 31 #[rv 1 q t ah n ch am m cm s] w fun e w' => e = .returned (.bool (rokB 1 t n m s r24 r28)) ∧ Below w.heap.size w w' := by
  have B0 := (Below.refl w.heap.size w).alloc (Nat.le_refl _) (.cells (rcells 1 q t ah n ch am m cm s) 27)
  have HR : Hid (rokB 1 t n m s r24 r28 = (decide (0 ≤ t) && (decide (t ≤ 510) && (decide (s = 0) && (decide (n = 0) && decide (m = 0)))))) := rfl
  go_enter Try.func31, Try.ntmps31
  go_wp2
  all_goals
    go_ret
    rw [HR.out]
    refine ⟨congrArg Ending.returned (congrArg Value.bool ?_), B0⟩
    rw [Bool.eq_iff_iff]
    simp only [bne_iff_ne, beq_iff_eq, bne_eq_false_iff_eq, beq_eq_false_iff_ne, Bool.and_eq_true, decide_eq_true_eq, Bool.not_eq_true', decide_eq_false_iff_not] at *
    first | (omega) | (simp; done) | (simp; omega)

set_option maxHeartbeats 2000000 in
theorem rmay_k4 (q t : Int) (ah : Option Addr) (n ch : Nat) (am : Option Addr) (m cm : Nat) (s : Int) (r24 r28 : Bool) (w : World) (hn : n ≤ 100000) (hm : m ≤ 100000) :
    Calls Try.prog 31 #[rv 4 q t ah n ch am m cm s] w fun e w' => e = .returned (.bool (rokB 4 t n m s r24 r28)) ∧ Below w.heap.size w w' := by
  have B0 := (Below.refl w.heap.size w).alloc (Nat.le_refl _) (.cells (rcells 4 q t ah n ch am m cm s) 27)
  have HR : Hid (rokB 4 t n m s r24 r28 = (decide (t = 0) && (decide (n = 0) && decide (m = 0)))) := rfl
  go_enter Try.func31, Try.ntmps31
  go_wp2
  all_goals
    go_ret
    rw [HR.out]
    refine ⟨congrArg Ending.returned (congrArg Value.bool ?_), B0⟩
    rw [Bool.eq_iff_iff]
    simp only [bne_iff_ne, beq_iff_eq, bne_eq_false_iff_eq, beq_eq_false_iff_ne, Bool.and_eq_true, decide_eq_true_eq, Bool.not_eq_true', decide_eq_false_iff_not] at *
    first | (omega) | (simp; done) | (simp; omega)

set_option maxHeartbeats 2000000 in
theorem rmay_k2 (q t : Int) (ah : Option Addr) (n ch : Nat) (am : Option Addr) (m cm : Nat) (s : Int) (r24 r28 : Bool) (w : World) (hn : n ≤ 100000) (hm : m ≤ 100000)
    (HC : Hid (∀ W, Below w.heap.size w W → Calls Try.prog 51 #[.slice ah n ch, .int .i64 24] W fun e w' => e = .returned (.bool r24) ∧ Below W.heap.size W w')) :
    Calls Try.prog 31 #[rv 2 q t ah n ch am m cm s] w fun e w' => e = .returned (.bool (rokB 2 t n m s r24 r28)) ∧ Below w.heap.size w w' := by
  have B0 := (Below.refl w.heap.size w).alloc (Nat.le_refl _) (.cells (rcells 2 q t ah n ch am m cm s) 27)
  have hr0 := rowAt_alloc w (rcells 2 q t ah n ch am m cm s) 27
  have HR : Hid (rokB 2 t n m s r24 r28 = (decide (t = 0) && (decide (s = 0) && (r24 && decide (m = n))))) := rfl
  cases r24
  all_goals
    go_enter Try.func31, Try.ntmps31
    go_wp2_with (go_at_call 51; refine (HC.out _ B0).mono ?_; rintro e w4 ⟨rfl, hb4⟩; have B4 := below_chain B0 hb4 B0.size; obtain ⟨c0, c1, c2, c3, c4, c5⟩ := sixr_cells (hr0.below hb4 hr0.lt))
    all_goals
      go_ret
      rw [HR.out]
      refine ⟨congrArg Ending.returned (congrArg Value.bool ?_), by first | exact B4 | exact B0⟩
      rw [Bool.eq_iff_iff]
      simp only [bne_iff_ne, beq_iff_eq, bne_eq_false_iff_eq, beq_eq_false_iff_ne, Bool.and_eq_true, decide_eq_true_eq, Bool.not_eq_true', decide_eq_false_iff_not] at *
      first | (omega) | (simp; done) | (simp; omega)

set_option maxHeartbeats 2000000 in
theorem rmay_k3 (q t : Int) (ah : Option Addr) (n ch : Nat) (am : Option Addr) (m cm : Nat) (s : Int) (r24 r28 : Bool) (w : World) (hn : n ≤ 100000) (hm : m ≤ 100000)
    (HC : Hid (∀ W, Below w.heap.size w W → Calls Try.prog 51 #[.slice ah n ch, .int .i64 28] W fun e w' => e = .returned (.bool r28) ∧ Below W.heap.size W w')) :
    Calls Try.prog 31 #[rv 3 q t ah n ch am m cm s] w fun e w' => e = .returned (.bool (rokB 3 t n m s r24 r28)) ∧ Below w.heap.size w w' := by
  have B0 := (Below.refl w.heap.size w).alloc (Nat.le_refl _) (.cells (rcells 3 q t ah n ch am m cm s) 27)
  have hr0 := rowAt_alloc w (rcells 3 q t ah n ch am m cm s) 27
  have HR : Hid (rokB 3 t n m s r24 r28 = (decide (t = 0) && (decide (s = 0) && (r28 && decide (m = 0))))) := rfl
  cases r28
  all_goals
    go_enter Try.func31, Try.ntmps31
    go_wp2_with (go_at_call 51; refine (HC.out _ B0).mono ?_; rintro e w4 ⟨rfl, hb4⟩; have B4 := below_chain B0 hb4 B0.size; obtain ⟨c0, c1, c2, c3, c4, c5⟩ := sixr_cells (hr0.below hb4 hr0.lt))
    all_goals
      go_ret
      rw [HR.out]
      refine ⟨congrArg Ending.returned (congrArg Value.bool ?_), by first | exact B4 | exact B0⟩
      rw [Bool.eq_iff_iff]
      simp only [bne_iff_ne, beq_iff_eq, bne_eq_false_iff_eq, beq_eq_false_iff_ne, Bool.and_eq_true, decide_eq_true_eq, Bool.not_eq_true', decide_eq_false_iff_not] at *
      first | (omega) | (simp; done) | (simp; omega)

set_option maxHeartbeats 2000000 in
theorem rmay_other (k q t : Int) (h1 : k ≠ 1) (h2 : k ≠ 2) (h3 : k ≠ 3) (h4 : k ≠ 4) (ah : Option Addr) (n ch : Nat) (am : Option Addr) (m cm : Nat) (s : Int) (r24 r28 : Bool) (w : World) :
    Calls Try.prog 31 #[rv k q t ah n ch am m cm s] w fun e w' => e = .returned (.bool (rokB k t n m s r24 r28)) ∧ Below w.heap.size w w' := by
  have B0 := (Below.refl w.heap.size w).alloc (Nat.le_refl _) (.cells (rcells k q t ah n ch am m cm s) 27)
  have HR : Hid (rokB k t n m s r24 r28 = false) := by
    show _ = _
    simp [rokB, h1, h2, h3, h4]
  have e1 : (k == 1) = false := by simpa using h1
  have e2 : (k == 2) = false := by simpa using h2
  have e3 : (k == 3) = false := by simpa using h3
  have e4 : (k == 4) = false := by simpa using h4
  clear h1 h2 h3 h4
  go_enter Try.func31, Try.ntmps31
  go_wp2
  go_ret
  rw [HR.out]
  exact ⟨rfl, B0⟩

theorem rmay08_any (x : Rc) (ah : Option Addr) (ch : Nat) (am : Option Addr) (cm : Nat) (w : World) (hn : x.hs.length ≤ 100000) (hm : x.ms.length ≤ 100000) (hS : RcS w x ah am) :
    Calls Try.prog 31 #[rcV x ah ch am cm] w fun e w' => e = .returned (.bool x.ok) ∧ Below w.heap.size w w' := by
  have HC := fun (most : Int) => Lib.hid (fun W (hb : Below w.heap.size w W) => rising_any ch most W hn (hS.1.below hb (Nat.le_refl _)))
  rw [rok_eq]
  by_cases c1 : x.k = 1
  · rw [rcV, c1]; exact rmay_k1 _ _ _ _ _ _ _ _ _ _ _ w hn hm
  · by_cases c2 : x.k = 2
    · rw [rcV, c2]; exact rmay_k2 _ _ _ _ _ _ _ _ _ _ _ w hn hm (HC 24)
    · by_cases c3 : x.k = 3
      · rw [rcV, c3]; exact rmay_k3 _ _ _ _ _ _ _ _ _ _ _ w hn hm (HC 28)
      · by_cases c4 : x.k = 4
        · rw [rcV, c4]; exact rmay_k4 _ _ _ _ _ _ _ _ _ _ _ w hn hm
        · exact rmay_other x.k _ _ c1 c2 c3 c4 _ _ _ _ _ _ _ _ _ w

end Go.Proofs.Ytfgnemddamebaaa
