/- Walks: the document's answer: may an inode be, and its bytes. -/
import Derived.Test.YtdeemaafngehoaaInoWalks3
set_option linter.unusedVariables false
set_option linter.unusedSimpArgs false
set_option maxRecDepth 100000
namespace Go.Proofs.Ytdeemaafngehoaa
open Go.RowKit Go.Joins

set_option maxHeartbeats 2000000 in
theorem rcheck_free (p : Bool) (l s d : Int) (a : Option Addr) (n cap : Nat) (r : Bool) (w : World) (hn : n ≤ 100000) :
    Calls Try.prog 20 #[iv 0 p l s d a n cap] w fun e w' => e = .returned (.bool (inoOk 0 p l s d n r)) ∧ Below w.heap.size w w' := by
  rw [inoOk_free]
  rcases Nat.eq_zero_or_pos n with rfl | hp
  · go_enter Try.func20, Try.ntmps20
    go_wp2
    all_goals
      go_ret
      refine ⟨congrArg Ending.returned (congrArg Value.bool ?_), (Below.refl _ _).alloc (Nat.le_refl _) _⟩
      try simp only [beq_iff_eq, beq_eq_false_iff_ne] at *
      first | rfl | (simp; done) | (simp_all; done)
  · have hq : ((n : Int) == 0) = false := by
      have : (n : Int) ≠ 0 := by omega
      simpa using this
    have hr : decide (n = 0) = false := by simp; omega
    rw [hr]
    have HQ := Lib.hid hr
    clear hr
    go_enter Try.func20, Try.ntmps20
    go_wp2
    all_goals
      go_ret
      refine ⟨congrArg Ending.returned (congrArg Value.bool ?_), (Below.refl _ _).alloc (Nat.le_refl _) _⟩
      try simp only [beq_iff_eq, beq_eq_false_iff_ne] at *
      first | rfl | (simp; done) | (simp_all; done)

set_option maxHeartbeats 2000000 in
theorem rcheck_other (k : Int) (h0 : k ≠ 0) (h1 : k ≠ 1) (h2 : k ≠ 2) (p : Bool) (l s d : Int) (a : Option Addr) (n cap : Nat) (r : Bool) (w : World) :
    Calls Try.prog 20 #[iv k p l s d a n cap] w fun e w' => e = .returned (.bool (inoOk k p l s d n r)) ∧ Below w.heap.size w w' := by
  have B0 := (Below.refl w.heap.size w).alloc (Nat.le_refl _) (.cells #[.int .i64 k, .bool p, .int .i64 l, .int .i64 s, .int .i64 d, .slice a n cap] 24)
  rw [inoOk_other h0 h1 h2]
  have e0 : (k == 0) = false := by simpa using h0
  have e1 : (k != 1) = true := by simpa using h1
  have e2 : (k != 2) = true := by simpa using h2
  go_enter Try.func20, Try.ntmps20
  go_wp2
  go_ret
  exact ⟨rfl, B0⟩

set_option maxHeartbeats 2000000 in
theorem rcheck_out (k : Int) (hk : k = 1 ∨ k = 2) (p : Bool) (l s d : Int) (a : Option Addr) (n cap : Nat) (r : Bool) (w : World) (ho : ¬ (0 ≤ l ∧ l ≤ 100 ∧ 0 ≤ s ∧ s ≤ 262144 ∧ 0 ≤ d ∧ d ≤ 4 ∧ n ≤ 4)) :
    Calls Try.prog 20 #[iv k p l s d a n cap] w fun e w' => e = .returned (.bool (inoOk k p l s d n r)) ∧ Below w.heap.size w w' := by
  have B0 := (Below.refl w.heap.size w).alloc (Nat.le_refl _) (.cells #[.int .i64 k, .bool p, .int .i64 l, .int .i64 s, .int .i64 d, .slice a n cap] 24)
  have HR : Hid (inoOk k p l s d n r = false) := by
    show _ = _
    rw [inoOk_used hk, decide_eq_false (by omega)]; rfl
  have hcase : l < 0 ∨ (0 ≤ l ∧ 100 < l) ∨ (0 ≤ l ∧ l ≤ 100 ∧ s < 0) ∨ (0 ≤ l ∧ l ≤ 100 ∧ 0 ≤ s ∧ 262144 < s) ∨ (0 ≤ l ∧ l ≤ 100 ∧ 0 ≤ s ∧ s ≤ 262144 ∧ d < 0) ∨ (0 ≤ l ∧ l ≤ 100 ∧ 0 ≤ s ∧ s ≤ 262144 ∧ 0 ≤ d ∧ 4 < d) ∨ (0 ≤ l ∧ l ≤ 100 ∧ 0 ≤ s ∧ s ≤ 262144 ∧ 0 ≤ d ∧ d ≤ 4 ∧ 4 < n) := by omega
  clear ho
  rcases hcase with c1 | ⟨c1, c2⟩ | ⟨c1, c2, c3⟩ | ⟨c1, c2, c3, c4⟩ | ⟨c1, c2, c3, c4, c5⟩ | ⟨c1, c2, c3, c4, c5, c6⟩ | ⟨c1, c2, c3, c4, c5, c6, c7⟩
  all_goals
    rcases hk with rfl | rfl
  all_goals
    go_enter Try.func20, Try.ntmps20
    go_wp2
    go_ret
    rw [HR.out]
    exact ⟨rfl, B0⟩

set_option maxHeartbeats 2000000 in
theorem rcheck_in (k : Int) (hk : k = 1 ∨ k = 2) (p : Bool) (l s d : Int) (a : Option Addr) (n cap : Nat) (r : Bool) (w : World) (ho : 0 ≤ l ∧ l ≤ 100 ∧ 0 ≤ s ∧ s ≤ 262144 ∧ 0 ≤ d ∧ d ≤ 4 ∧ n ≤ 4)
    (HC : Hid (∀ W, Below w.heap.size w W → Calls Try.prog 48 #[.slice a n cap, .bool (d == 0)] W fun e w' => e = .returned (.bool r) ∧ Below W.heap.size W w')) :
    Calls Try.prog 20 #[iv k p l s d a n cap] w fun e w' => e = .returned (.bool (inoOk k p l s d n r)) ∧ Below w.heap.size w w' := by
  have B0 := (Below.refl w.heap.size w).alloc (Nat.le_refl _) (.cells #[.int .i64 k, .bool p, .int .i64 l, .int .i64 s, .int .i64 d, .slice a n cap] 24)
  have hr0 := rowAt_alloc w #[.int .i64 k, .bool p, .int .i64 l, .int .i64 s, .int .i64 d, .slice a n cap] 24
  obtain ⟨o1, o2, o3, o4, o5, o6, o7⟩ := ho
  have HR : Hid (inoOk k p l s d n r = ((decide (d = 0) || decide (0 < n)) && r)) := by
    show _ = _
    rw [inoOk_used hk, decide_eq_true (by omega)]; rfl
  by_cases c2 : d = 0
  · subst c2
    rw [show ((0 : Int) == 0) = true from rfl] at HC
    cases r
    all_goals
      rcases hk with rfl | rfl
    all_goals
      go_enter Try.func20, Try.ntmps20
      go_wp2_with fail
      refine (HC.out _ B0).mono ?_
      rintro e w4 ⟨rfl, hb4⟩
      have B4 := below_chain B0 hb4 B0.size
      obtain ⟨q0, q1, q2, q3, q4, q5⟩ := six_cells (hr0.below hb4 hr0.lt)
      go_wp2_with fail
      go_ret
      rw [HR.out]
      exact ⟨by simp, B4⟩
  · have e2 : (d == 0) = false := by simpa using c2
    rw [e2] at HC
    have HD := Lib.hid c2
    clear c2
    by_cases c3 : 0 < n
    · cases r
      all_goals
        rcases hk with rfl | rfl
      all_goals
        go_enter Try.func20, Try.ntmps20
        go_wp2_with fail
        refine (HC.out _ B0).mono ?_
        rintro e w4 ⟨rfl, hb4⟩
        have B4 := below_chain B0 hb4 B0.size
        obtain ⟨q0, q1, q2, q3, q4, q5⟩ := six_cells (hr0.below hb4 hr0.lt)
        go_wp2_with fail
        go_ret
        rw [HR.out]
        exact ⟨by simp [c3], B4⟩
    · obtain rfl : n = 0 := by omega
      cases r
      all_goals
        rcases hk with rfl | rfl
      all_goals
        go_enter Try.func20, Try.ntmps20
        go_wp2_with fail
        refine (HC.out _ B0).mono ?_
        rintro e w4 ⟨rfl, hb4⟩
        have B4 := below_chain B0 hb4 B0.size
        obtain ⟨q0, q1, q2, q3, q4, q5⟩ := six_cells (hr0.below hb4 hr0.lt)
        go_wp2_with fail
        go_ret
        rw [HR.out]
        exact ⟨by simp [HD.out], B4⟩

theorem rcheck_any (x : Ino) (a : Option Addr) (cap : Nat) (w : World) (hn : x.es.length ≤ 100000) (hE : EntS w a x.es) :
    Calls Try.prog 20 #[inoV x a cap] w fun e w' => e = .returned (.bool x.ok) ∧ Below w.heap.size w w' := by
  unfold Ino.ok
  by_cases c0 : x.k = 0
  · rw [inoV, c0]
    exact rcheck_free x.p x.l x.s x.d a x.es.length cap _ w hn
  · by_cases c1 : x.k = 1 ∨ x.k = 2
    · by_cases ho : 0 ≤ x.l ∧ x.l ≤ 100 ∧ 0 ≤ x.s ∧ x.s ≤ 262144 ∧ 0 ≤ x.d ∧ x.d ≤ 4 ∧ x.es.length ≤ 4
      · exact rcheck_in x.k c1 x.p x.l x.s x.d a x.es.length cap _ w ho (Lib.hid (fun W hb => entRow_any cap _ W hn (hE.below hb (Nat.le_refl _))))
      · exact rcheck_out x.k c1 x.p x.l x.s x.d a x.es.length cap _ w ho
    · exact rcheck_other x.k c0 (fun h => c1 (.inl h)) (fun h => c1 (.inr h)) x.p x.l x.s x.d a x.es.length cap _ w

end Go.Proofs.Ytdeemaafngehoaa
