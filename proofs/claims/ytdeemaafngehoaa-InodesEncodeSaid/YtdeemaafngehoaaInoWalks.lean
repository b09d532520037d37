/- Walks: may an inode be? -/
import Derived.Test.YtdeemaafngehoaaPlainIno
set_option linter.unusedVariables false
set_option linter.unusedSimpArgs false
set_option maxRecDepth 100000
namespace Go.Proofs.Ytdeemaafngehoaa
open Go.RowKit Go.Joins

abbrev inoV (x : Ino) (a : Option Addr) (cap : Nat) : Value := iv x.k x.p x.l x.s x.d a x.es.length cap

theorem inoOk_free (p : Bool) (l s d : Int) (n : Nat) (r : Bool) : inoOk 0 p l s d n r = (!p && (decide (l = 0) && (decide (s = 0) && (decide (d = 0) && decide (n = 0))))) := rfl
theorem inoOk_other {k : Int} (h0 : k ≠ 0) (h1 : k ≠ 1) (h2 : k ≠ 2) (p : Bool) (l s d : Int) (n : Nat) (r : Bool) : inoOk k p l s d n r = false := by
  simp [inoOk, h0, h1, h2]
theorem inoOk_used {k : Int} (h : k = 1 ∨ k = 2) (p : Bool) (l s d : Int) (n : Nat) (r : Bool) : inoOk k p l s d n r = (decide (0 ≤ l ∧ l ≤ 100 ∧ 0 ≤ s ∧ s ≤ 262144 ∧ 0 ≤ d ∧ d ≤ 4 ∧ n ≤ 4) && ((decide (d = 0) || decide (0 < n)) && r)) := by
  rcases h with rfl | rfl <;> simp [inoOk]

set_option maxHeartbeats 2000000 in
theorem icheck_free (p : Bool) (l s d : Int) (a : Option Addr) (n cap : Nat) (r : Bool) (w : World) (hn : n ≤ 100000) :
    Calls Try.prog 19 #[iv 0 p l s d a n cap] w fun e w' => e = .returned (.bool (inoOk 0 p l s d n r)) ∧ Below w.heap.size w w' := by
  have B0 := (Below.refl w.heap.size w).alloc (Nat.le_refl _) (.cells #[.int .i64 0, .bool p, .int .i64 l, .int .i64 s, .int .i64 d, .slice a n cap] 24)
  rw [inoOk_free]
  clear B0
  rcases Nat.eq_zero_or_pos n with rfl | hp
  · go_enter Try.func19, Try.ntmps19
    go_wp2
    all_goals
      go_ret
      refine ⟨congrArg Ending.returned (congrArg Value.bool ?_), (Below.refl _ _).alloc (Nat.le_refl _) _⟩
      try simp only [beq_iff_eq, beq_eq_false_iff_ne] at *
      first | rfl | (simp; done) | (simp_all; done)
  · have hq : ((n : Int) == 0) = false := by
      have : (n : Int) ≠ 0 := by omega
      simpa using this
    have hr : decide (n = 0) = false := by simp; omega
    rw [hr]
    have HQ := Lib.hid hr
    clear hr
    go_enter Try.func19, Try.ntmps19
    go_wp2
    all_goals
      go_ret
      refine ⟨congrArg Ending.returned (congrArg Value.bool ?_), (Below.refl _ _).alloc (Nat.le_refl _) _⟩
      try simp only [beq_iff_eq, beq_eq_false_iff_ne] at *
      first | rfl | (simp; done) | (simp_all; done)

set_option maxHeartbeats 2000000 in
theorem icheck_other (k : Int) (h0 : k ≠ 0) (h1 : k ≠ 1) (h2 : k ≠ 2) (p : Bool) (l s d : Int) (a : Option Addr) (n cap : Nat) (r : Bool) (w : World) :
    Calls Try.prog 19 #[iv k p l s d a n cap] w fun e w' => e = .returned (.bool (inoOk k p l s d n r)) ∧ Below w.heap.size w w' := by
  have B0 := (Below.refl w.heap.size w).alloc (Nat.le_refl _) (.cells #[.int .i64 k, .bool p, .int .i64 l, .int .i64 s, .int .i64 d, .slice a n cap] 24)
  rw [inoOk_other h0 h1 h2]
  have e0 : (k == 0) = false := by simpa using h0
  have e1 : (k == 1) = false := by simpa using h1
  have e2 : (k == 2) = false := by simpa using h2
  go_enter Try.func19, Try.ntmps19
  go_wp2
  go_ret
  exact ⟨rfl, B0⟩

set_option maxHeartbeats 2000000 in
theorem icheck_out (k : Int) (hk : k = 1 ∨ k = 2) (p : Bool) (l s d : Int) (a : Option Addr) (n cap : Nat) (r : Bool) (w : World) (ho : ¬ (0 ≤ l ∧ l ≤ 100 ∧ 0 ≤ s ∧ s ≤ 262144 ∧ 0 ≤ d ∧ d ≤ 4)) :
    Calls Try.prog 19 #[iv k p l s d a n cap] w fun e w' => e = .returned (.bool (inoOk k p l s d n r)) ∧ Below w.heap.size w w' := by
  have B0 := (Below.refl w.heap.size w).alloc (Nat.le_refl _) (.cells #[.int .i64 k, .bool p, .int .i64 l, .int .i64 s, .int .i64 d, .slice a n cap] 24)
  have HR : Hid (inoOk k p l s d n r = false) := by
    show _ = _
    rw [inoOk_used hk, decide_eq_false (by omega)]; rfl
  by_cases c1 : l < 0
  · rcases hk with rfl | rfl
    all_goals
      go_enter Try.func19, Try.ntmps19
      go_wp2
      go_ret
      rw [HR.out]
      exact ⟨rfl, B0⟩
  · by_cases c2 : 100 < l
    · rcases hk with rfl | rfl
      all_goals
        go_enter Try.func19, Try.ntmps19
        go_wp2
        go_ret
        rw [HR.out]
        exact ⟨rfl, B0⟩
    · by_cases c3 : s < 0
      · rcases hk with rfl | rfl
        all_goals
          go_enter Try.func19, Try.ntmps19
          go_wp2
          go_ret
          rw [HR.out]
          exact ⟨rfl, B0⟩
      · by_cases c4 : 262144 < s
        · rcases hk with rfl | rfl
          all_goals
            go_enter Try.func19, Try.ntmps19
            go_wp2
            go_ret
            rw [HR.out]
            exact ⟨rfl, B0⟩
        · by_cases c5 : d < 0
          · rcases hk with rfl | rfl
            all_goals
              go_enter Try.func19, Try.ntmps19
              go_wp2
              go_ret
              rw [HR.out]
              exact ⟨rfl, B0⟩
          · have c6 : 4 < d := by omega
            clear ho
            rcases hk with rfl | rfl
            all_goals
              go_enter Try.func19, Try.ntmps19
              go_wp2
              go_ret
              rw [HR.out]
              exact ⟨rfl, B0⟩

set_option maxHeartbeats 2000000 in
theorem icheck_in (k : Int) (hk : k = 1 ∨ k = 2) (p : Bool) (l s d : Int) (a : Option Addr) (n cap : Nat) (hn : n ≤ 100000) (r : Bool) (w : World) (ho : 0 ≤ l ∧ l ≤ 100 ∧ 0 ≤ s ∧ s ≤ 262144 ∧ 0 ≤ d ∧ d ≤ 4)
    (HC : Hid (∀ W, Below w.heap.size w W → Calls Try.prog 47 #[.slice a n cap, .bool (d == 0)] W fun e w' => e = .returned (.bool r) ∧ Below W.heap.size W w')) :
    Calls Try.prog 19 #[iv k p l s d a n cap] w fun e w' => e = .returned (.bool (inoOk k p l s d n r)) ∧ Below w.heap.size w w' := by
  have B0 := (Below.refl w.heap.size w).alloc (Nat.le_refl _) (.cells #[.int .i64 k, .bool p, .int .i64 l, .int .i64 s, .int .i64 d, .slice a n cap] 24)
  obtain ⟨o1, o2, o3, o4, o5, o6⟩ := ho
  have HR : Hid (inoOk k p l s d n r = (decide (n ≤ 4) && ((decide (d = 0) || decide (0 < n)) && r))) := by
    show _ = _
    rw [inoOk_used hk]
    congr 1
    rw [decide_eq_decide]
    omega
  by_cases c1 : n ≤ 4
  · by_cases c2 : d = 0
    · subst c2
      rw [show ((0 : Int) == 0) = true from rfl] at HC
      rcases hk with rfl | rfl
      all_goals
        go_enter Try.func19, Try.ntmps19
        go_wp2_with fail
        refine (HC.out _ B0).mono ?_
        rintro e w4 ⟨rfl, hb4⟩
        have B4 := below_chain B0 hb4 B0.size
        go_wp2_with fail
        go_ret
        rw [HR.out]
        exact ⟨by simp [c1], B4⟩
    · have e2 : (d == 0) = false := by simpa using c2
      rw [e2] at HC
      have HD := Lib.hid c2
      clear c2
      by_cases c3 : 0 < n
      · rcases hk with rfl | rfl
        all_goals
          go_enter Try.func19, Try.ntmps19
          go_wp2_with fail
          refine (HC.out _ B0).mono ?_
          rintro e w4 ⟨rfl, hb4⟩
          have B4 := below_chain B0 hb4 B0.size
          go_wp2_with fail
          go_ret
          rw [HR.out]
          exact ⟨by simp [c1, c3], B4⟩
      · obtain rfl : n = 0 := by omega
        rcases hk with rfl | rfl
        all_goals
          go_enter Try.func19, Try.ntmps19
          go_wp2_with fail
          go_ret
          rw [HR.out]
          exact ⟨by simp [HD.out], B0⟩
  · have c1' : 4 < n := by omega
    rcases hk with rfl | rfl
    all_goals
      go_enter Try.func19, Try.ntmps19
      go_wp2_with fail
      go_ret
      rw [HR.out]
      exact ⟨by rw [decide_eq_false (show ¬ n ≤ 4 by omega)]; rfl, B0⟩

theorem icheck_any (x : Ino) (a : Option Addr) (cap : Nat) (w : World) (hn : x.es.length ≤ 100000) (hE : EntS w a x.es) :
    Calls Try.prog 19 #[inoV x a cap] w fun e w' => e = .returned (.bool x.ok) ∧ Below w.heap.size w w' := by
  unfold Ino.ok
  by_cases c0 : x.k = 0
  · rw [inoV, c0]
    exact icheck_free x.p x.l x.s x.d a x.es.length cap _ w hn
  · by_cases c1 : x.k = 1 ∨ x.k = 2
    · by_cases ho : 0 ≤ x.l ∧ x.l ≤ 100 ∧ 0 ≤ x.s ∧ x.s ≤ 262144 ∧ 0 ≤ x.d ∧ x.d ≤ 4
      · exact icheck_in x.k c1 x.p x.l x.s x.d a x.es.length cap hn _ w ho (Lib.hid (fun W hb => entCheck_any cap _ W hn (hE.below hb (Nat.le_refl _))))
      · exact icheck_out x.k c1 x.p x.l x.s x.d a x.es.length cap _ w ho
    · exact icheck_other x.k c0 (fun h => c1 (.inl h)) (fun h => c1 (.inr h)) x.p x.l x.s x.d a x.es.length cap _ w

end Go.Proofs.Ytdeemaafngehoaa
