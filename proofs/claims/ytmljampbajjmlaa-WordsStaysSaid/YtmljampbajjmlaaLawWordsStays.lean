/- For every input the law glissadelaw01.WordsStays returns true. -/
import Derived.Test.YtmljampbajjmlaaWordsAlive
import Derived.Test.YtmljampbajjmlaaFrame
set_option linter.unusedVariables false
set_option linter.unusedSimpArgs false
namespace Go.Proofs.Ytmljampbajjmlaa
open Go.RowKit Go.Joins

theorem putOk_getV {s : ByteArray} {a n : Int} (hf : fits s.size a n = true) : putOk s a n (getV s a n : Nat) = true ∧ putV s a n (getV s a n : Nat) = s := by
  have e : getV s a n = getL s.data.toList a n := by rw [getV, if_pos hf]
  have h : putOk s a n (getV s a n : Nat) = true := by
    rw [putOk, hf, e]
    simpa using getL_lt s.data.toList a n
  refine ⟨h, ?_⟩
  rw [putV, if_pos h, e, Int.toNat_natCast, putL_getL (by simpa using hf)]

set_option maxHeartbeats 1000000 in
theorem stays_yes (w : World) (s : ByteArray) (HS : s.size ≤ maxLen) (a n : Int) (hf : fits s.size a n = true) :
    Calls Try.prog 6 #[.string s, .agg #[.int .i64 a, .int .i64 n]] w fun e w' => e = .returned (.bool true) ∧ Below w.heap.size w w' := by
  obtain ⟨hn, h2, h3⟩ := fits_iff.1 hf
  obtain ⟨N, hN⟩ : ∃ N : Int, N = getV s a n := ⟨_, rfl⟩
  have hN1 : N ≤ 18446744073709551615 := by rw [hN]; exact getV_le _ _ _
  have hN0 : 0 ≤ N := by omega
  obtain ⟨p1, p2⟩ := putOk_getV hf
  have HC1 := Lib.hid (fun W => by have := get_any s a n W HS; rwa [hf, ← hN] at this : ∀ W, Calls Try.prog 18 #[.string s, .int .i64 a, .int .i64 n] W fun e w' => e = .returned (.tuple #[.int .u64 N, .bool true]) ∧ W = w')
  have HC2 := Lib.hid (fun W => by have := put_any s a n N W HS hN0 hN1; rw [hN, p1, p2, ← hN] at this; exact this : ∀ W, Calls Try.prog 15 #[.string s, .int .i64 a, .int .i64 n, .int .u64 N] W fun e w' => e = .returned (.tuple #[.string s, .bool true]) ∧ Below W.heap.size W w')
  clear p1 p2 hN
  have hs := HS
  unfold maxLen at hs
  have h4 : a ≤ s.size - n := by omega
  rcases hn with rfl | rfl | rfl | rfl
  all_goals
    clear hf
    go_enter Try.func6, Try.ntmps6
    go_wp2_with fail
    refine (HC1.out _).mono ?_
    rintro e w1 ⟨rfl, rfl⟩
    go_wp2_with fail
    refine (HC2.out _).mono ?_
    rintro e w1 ⟨rfl, hb1⟩
    go_wp2_with fail
    refine (alive01 _).mono ?_
    rintro e w3 ⟨rfl, hb3⟩
    go_wp2_with fail
    go_ret
    exact ⟨rfl, ((Below.refl _ _).alloc (Nat.le_refl _) _).trans ((below_le hb1 (by simp)).trans (below_le hb3 (by have := hb1.size; simp at *; omega)))⟩

theorem fits_false {len : Nat} {a n : Int} (hf : fits len a n = false) (hn : n = 1 ∨ n = 2 ∨ n = 4 ∨ n = 8) : ¬ 0 ≤ a ∨ len - n < a := by
  by_cases c : 0 ≤ a ∧ a + n ≤ len
  · rw [fits_iff.2 ⟨hn, c.1, c.2⟩] at hf; cases hf
  · omega

set_option maxHeartbeats 1000000 in
theorem stays_no (w : World) (s : ByteArray) (HS : s.size ≤ maxLen) (a n : Int) (h0 : -9223372036854775808 ≤ n) (h1 : n ≤ 9223372036854775807) (hf : fits s.size a n = false) :
    Calls Try.prog 6 #[.string s, .agg #[.int .i64 a, .int .i64 n]] w fun e w' => e = .returned (.bool true) ∧ Below w.heap.size w w' := by
  have p1 : putOk s a n 0 = false := by rw [putOk, hf]; rfl
  have p2 : putV s a n 0 = ⟨#[]⟩ := by rw [putV, p1]; rfl
  have HC1 := Lib.hid (fun W => get_no s a n W HS hf : ∀ W, Calls Try.prog 18 #[.string s, .int .i64 a, .int .i64 n] W fun e w' => e = .returned (.tuple #[.int .u64 0, .bool false]) ∧ W = w')
  have HC2 := Lib.hid (fun W => by have := put_any s a n 0 W HS (by decide) (by decide); rw [p1, p2] at this; exact this : ∀ W, Calls Try.prog 15 #[.string s, .int .i64 a, .int .i64 n, .int .u64 0] W fun e w' => e = .returned (.tuple #[.string ⟨#[]⟩, .bool false]) ∧ Below W.heap.size W w')
  clear p1 p2
  have hs := HS
  unfold maxLen at hs
  by_cases hn : n = 1 ∨ n = 2 ∨ n = 4 ∨ n = 8
  · have hr := fits_false hf hn
    by_cases ha : 0 ≤ a
    · have hr' : s.size - n < a := by omega
      clear hf hr
      rcases hn with rfl | rfl | rfl | rfl
      all_goals
        go_enter Try.func6, Try.ntmps6
        go_wp2_with fail
        refine (HC1.out _).mono ?_
        rintro e w1 ⟨rfl, rfl⟩
        go_wp2_with fail
        refine (HC2.out _).mono ?_
        rintro e w1 ⟨rfl, hb1⟩
        go_wp2_with fail
        refine (alive01 _).mono ?_
        rintro e w3 ⟨rfl, hb3⟩
        go_wp2_with fail
        go_ret
        exact ⟨rfl, ((Below.refl _ _).alloc (Nat.le_refl _) _).trans ((below_le hb1 (by simp)).trans (below_le hb3 (by have := hb1.size; simp at *; omega)))⟩
    · clear hf hr
      rcases hn with rfl | rfl | rfl | rfl
      all_goals
        go_enter Try.func6, Try.ntmps6
        go_wp2_with fail
        refine (HC1.out _).mono ?_
        rintro e w1 ⟨rfl, rfl⟩
        go_wp2_with fail
        refine (HC2.out _).mono ?_
        rintro e w1 ⟨rfl, hb1⟩
        go_wp2_with fail
        refine (alive01 _).mono ?_
        rintro e w3 ⟨rfl, hb3⟩
        go_wp2_with fail
        go_ret
        exact ⟨rfl, ((Below.refl _ _).alloc (Nat.le_refl _) _).trans ((below_le hb1 (by simp)).trans (below_le hb3 (by have := hb1.size; simp at *; omega)))⟩
  · have e1 : (n == 1) = false := by simp; omega
    have e2 : (n == 2) = false := by simp; omega
    have e3 : (n == 4) = false := by simp; omega
    have e4 : (n == 8) = false := by simp; omega
    clear hf hn
    go_enter Try.func6, Try.ntmps6
    go_wp2_with fail
    refine (HC1.out _).mono ?_
    rintro e w1 ⟨rfl, rfl⟩
    go_wp2_with fail
    refine (HC2.out _).mono ?_
    rintro e w1 ⟨rfl, hb1⟩
    go_wp2_with fail
    refine (alive01 _).mono ?_
    rintro e w3 ⟨rfl, hb3⟩
    go_wp2_with fail
    go_ret
    exact ⟨rfl, ((Below.refl _ _).alloc (Nat.le_refl _) _).trans ((below_le hb1 (by simp)).trans (below_le hb3 (by have := hb1.size; simp at *; omega)))⟩

theorem walk_wordsStays (w : World) (s : ByteArray) (hs : s.size ≤ 140737488351232) (a n : Int) (hz : ∀ z ∈ [a, n], -9223372036854775808 ≤ z ∧ z ≤ 9223372036854775807) :
    Calls Try.prog 6 #[.string s, .agg #[.int .i64 a, .int .i64 n]] w fun e w' => e = .returned (.bool true) ∧ Below w.heap.size w w' := by
  by_cases hf : fits s.size a n = true
  · exact stays_yes w s (size_le_maxLen hs) a n hf
  · exact stays_no w s (size_le_maxLen hs) a n (hz n (by simp)).1 (hz n (by simp)).2 (by simpa using hf)

/-! ### the frame (printed by mklaw.py) -/

set_option maxRecDepth 100000 in
theorem lifted_wordsStays (os : Os) (started : os.Started) (H : Type) (enc : TypeId × Value → H) :
    ReturnsInHanded {} Try.checked os 6 .any (Rows.wordsStaysSpec.pre6 enc Try.prog Try.f6 Rows.wordsStaysRow.domain false) (Rows.wordsStaysSpec.post enc Try.prog Try.f6 false true false false) := by
  refine law_step (C := Try.checked) (tb := 4) (by kernel_rfl) (by kernel_rfl) started (by kernel_rfl) Try.func6 rfl Try.underlying4 rfl ?_ ?_
    (ChangeSpec.witness6 (enc := enc) (C := Try.checked) false ⟨#[], #[.string ByteArray.empty, .agg #[.int .i64 0, .int .i64 0]], []⟩ 8 (by kernel_rfl) (by kernel_rfl) (by kernel_rfl) (by kernel_rfl)) ?_
  · intro ds hl
    match ds, hl with
    | [d0, d1], _ => rfl
  · intro t ht
    rw [show Try.f6.params.toList = [9, 23] from by rw [Try.params6]] at ht
    simp only [List.mem_cons, List.not_mem_nil, or_false] at ht
    rcases ht with rfl | rfl
    · exact ⟨by kernel_rfl, of_decide_eq_true (by kernel_rfl)⟩
    · exact ⟨by kernel_rfl, of_decide_eq_true (by kernel_rfl)⟩
  · intro W args hG
    rw [show Try.f6.params.toList = [9, 23] from by rw [Try.params6]] at hG
    obtain ⟨v0, v1, rfl, g0, g1⟩ := gotAll_args2 hG
    obtain ⟨a0, rfl, b0⟩ := got_string Try.underlying9 g0
    obtain ⟨zs1, rfl, zl1, zh1⟩ := got_flat (k := .i64) (n := 2) (by kernel_rfl) g1
    obtain ⟨z1_0, z1_1, rfl⟩ : ∃ z1_0 z1_1, zs1 = [z1_0, z1_1] := by
      match zs1, zl1 with
      | [z1_0, z1_1], _ => exact ⟨z1_0, z1_1, rfl⟩
    exact walk_wordsStays W a0 b0 z1_0 z1_1 (fun z hz => has_i64 (zh1 z hz))

theorem wordsStays_over : Rows.wordsStaysRow.holds Try.pinned (OpenSpec.ofChange Rows.wordsStaysSpec) :=
  OpenClaim.holds_of_wide 6 Try.f6 rfl rfl rfl rfl rfl rfl rfl ⟨rfl, rfl, rfl, rfl, rfl⟩ rfl rfl rfl rfl rfl (by kernel_rfl) Try.func6 (by kernel_rfl)
    (of_decide_eq_true (by kernel_rfl)) (by unfold Func.isWrapper; first | (rw [if_pos (by decide +kernel)]; kernel_rfl) | (rw [if_neg (by decide +kernel)]; exact ⟨rfl, rfl⟩))
    (fun os started H enc _ => lifted_wordsStays os started H enc)

theorem wordsStays_holds : Rows.WordsStaysSaid := wordsStays_over
#print axioms wordsStays_holds

end Go.Proofs.Ytmljampbajjmlaa
