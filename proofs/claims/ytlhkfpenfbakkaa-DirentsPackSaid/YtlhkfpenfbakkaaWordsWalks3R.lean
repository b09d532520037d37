/- Walks: words: the document's answers of ints. -/
import Derived.Test.YtlhkfpenfbakkaaWordsWalks3
set_option linter.unusedVariables false
set_option linter.unusedSimpArgs false
set_option maxRecDepth 100000
namespace Go.Proofs.Ytlhkfpenfbakkaa
open Go.RowKit Go.Joins

set_option maxHeartbeats 400000 in
theorem rgetint_any (s : ByteArray) (a n : Int) (w : World) (hs : s.size ≤ maxLen) :
    Calls Try.prog 34 #[.string s, .int .i64 a, .int .i64 n] w fun e w' => e = .returned (.tuple #[.int .i64 (getIV s a n), .bool (getIOk s a n)]) ∧ w = w' := by
  obtain ⟨x, hx⟩ : ∃ x : Int, x = getV s a n := ⟨_, rfl⟩
  have h0 : 0 ≤ x := by omega
  have h1 : x ≤ 18446744073709551615 := by rw [hx]; exact getV_le s a n
  have HG : Hid (Calls Try.prog 43 #[.string s, .int .i64 a, .int .i64 n] w fun e w' => e = .returned (.tuple #[.int .u64 x, .bool (fits s.size a n)]) ∧ w = w') := by
    rw [hx]; exact rget_any s a n w hs
  by_cases hf : fits s.size a n = true
  · by_cases hb : 9223372036854775807 < x
    · have HF : Hid (getIOk s a n = false) := by
        show _ = _
        unfold getIOk
        unfold getV at hx
        rw [if_pos hf] at hx; rw [hf, Bool.true_and, decide_eq_false_iff_not]; omega
      clear hx
      go_enter Try.func34, Try.ntmps34
      go_wp2_with (go_at_call 43; refine HG.out.mono ?_; rintro e w' ⟨rfl, rfl⟩)
      go_ret2
      rw [getIV, HF.out]
      exact ⟨rfl, rfl⟩
    · have HF : Hid (getIOk s a n = true ∧ getIV s a n = x) := by
        show _ ∧ _
        unfold getIV getIOk
        unfold getV at hx
        rw [if_pos hf] at hx
        have : decide (getL s.data.toList a n ≤ 9223372036854775807) = true := by rw [decide_eq_true_eq]; omega
        rw [hf, this]
        exact ⟨rfl, by simp [hx]⟩
      clear hx
      go_enter Try.func34, Try.ntmps34
      go_wp2_with (go_at_call 43; refine HG.out.mono ?_; rintro e w' ⟨rfl, rfl⟩)
      go_ret2
      rw [HF.out.1, HF.out.2]
      exact ⟨rfl, rfl⟩
  · rw [Bool.not_eq_true] at hf
    have HF : Hid (getIOk s a n = false) := by
      show _ = _
      unfold getIOk
      rw [hf]; rfl
    clear hx
    go_enter Try.func34, Try.ntmps34
    go_wp2_with (go_at_call 43; refine HG.out.mono ?_; rintro e w' ⟨rfl, rfl⟩)
    go_ret2
    rw [getIV, HF.out]
    exact ⟨rfl, rfl⟩

set_option maxHeartbeats 400000 in
theorem rputint_any (s : ByteArray) (a n v : Int) (w : World) (hs : s.size ≤ maxLen) (hv1 : v ≤ 9223372036854775807) :
    Calls Try.prog 32 #[.string s, .int .i64 a, .int .i64 n, .int .i64 v] w fun e w' => e = .returned (.tuple #[.string (putIV s a n v), .bool (putIOk s a n v)]) ∧ Below w.heap.size w w' := by
  by_cases h0 : 0 ≤ v
  · rw [(putIV_nonneg h0).1, (putIV_nonneg h0).2]
    go_enter Try.func32, Try.ntmps32
    go_wp2_with (go_at_call 41; refine (rput_any _ _ _ _ _ hs (by omega) (by omega)).mono ?_; rintro e w' ⟨rfl, hb⟩)
    go_ret2
    exact ⟨rfl, hb⟩
  · rw [(putIV_neg h0).1, (putIV_neg h0).2]
    go_enter Try.func32, Try.ntmps32
    go_wp2
    go_ret2
    exact ⟨rfl, Below.refl _ _⟩


end Go.Proofs.Ytlhkfpenfbakkaa
