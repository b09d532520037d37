/- For every input the law glissadelaw01.WordsHalves returns true. -/
import Derived.Test.YtmljampbajjmlaaWordsAlive
import Derived.Test.YtmljampbajjmlaaFrame
set_option linter.unusedVariables false
set_option linter.unusedSimpArgs false
namespace Go.Proofs.Ytmljampbajjmlaa
open Go.RowKit Go.Joins

/-- two halves in the walk's words -/
theorem halves (s : ByteArray) (a : Int) (h : Nat) (hf : fits s.size a (2 * (h : Int)) = true) (hh : h = 1 ∨ h = 2 ∨ h = 4) :
    fits s.size a h = true ∧ fits s.size (a + (h : Int)) h = true ∧ getV s a (2 * (h : Int)) = getV s a h + 256 ^ h * getV s (a + (h : Int)) h := by
  obtain ⟨h1, h2, h3⟩ := fits_iff.1 hf
  have f1 : fits s.size a h = true := fits_iff.2 ⟨by omega, by omega, by omega⟩
  have f2 : fits s.size (a + (h : Int)) h = true := fits_iff.2 ⟨by omega, by omega, by omega⟩
  refine ⟨f1, f2, ?_⟩
  rw [getV, getV, getV, if_pos hf, if_pos f1, if_pos f2]
  exact getL_two _ a h h2 (by simp; omega)

theorem mul_room (h k b : Nat) (hh : h = 1 ∨ h = 2 ∨ h = 4) (hk : k < h) (hb : b < 256 ^ h) : 256 ^ k * b * 256 ≤ 18446744073709551615 := by
  have e : 256 ^ k * b * 256 = 256 ^ (k + 1) * b := by rw [Nat.pow_succ]; simp only [Nat.mul_comm, Nat.mul_left_comm]
  have h1 : 256 ^ (k + 1) ≤ 256 ^ h := Nat.pow_le_pow_right (by decide) (by omega)
  rw [e]
  refine Nat.le_trans (Nat.mul_le_mul h1 (show b ≤ 256 ^ h - 1 by omega)) ?_
  rcases hh with rfl | rfl | rfl <;> decide

theorem getV_lt (s : ByteArray) (a : Int) (h : Nat) : getV s a (h : Int) < 256 ^ h := by
  unfold getV
  split
  · simpa using getL_lt s.data.toList a (h : Int)
  · exact Nat.pow_pos (by decide)

/-- the law's walk, the half known -/
theorem halves_yes (w : World) (s : ByteArray) (HS : s.size ≤ maxLen) (a : Int) (x : Int) (h0 : 0 ≤ x) (h1 : x ≤ 255) (ha1 : a ≤ 9223372036854775807 - 8) (a0 : 0 ≤ a) (h : Nat) (hh : h = 1 ∨ h = 2 ∨ h = 4) (hx : x % 3 = 0 ∧ h = 1 ∨ x % 3 = 1 ∧ h = 2 ∨ x % 3 = 2 ∧ h = 4)
    (hf : fits s.size a (2 * (h : Int)) = true) :
    Calls Try.prog 5 #[.string s, .int .i64 a, .int .u8 x] w fun e w' => e = .returned (.bool true) ∧ Below w.heap.size w w' := by
  obtain ⟨f1, f2, hv⟩ := halves s a h hf hh
  have hL : [Value.int IntKind.i64 1, Value.int IntKind.i64 2, Value.int IntKind.i64 4][(x % 3).toNat]? = some (.int .i64 (h : Int)) := by
    rcases hx with ⟨e, rfl⟩ | ⟨e, rfl⟩ | ⟨e, rfl⟩ <;> rw [e] <;> rfl
  obtain ⟨N, hN⟩ : ∃ N : Int, N = getV s a (2 * (h : Int)) := ⟨_, rfl⟩
  obtain ⟨A, hA⟩ : ∃ A : Int, A = getV s a h := ⟨_, rfl⟩
  obtain ⟨B, hB⟩ : ∃ B : Nat, B = getV s (a + (h : Int)) h := ⟨_, rfl⟩
  have C1 : ∀ W, Calls Try.prog 18 #[.string s, .int .i64 a, .int .i64 (2 * (h : Int))] W fun e w' => e = .returned (.tuple #[.int .u64 N, .bool true]) ∧ W = w' := by
    intro W; have := get_any s a (2 * (h : Int)) W HS; rwa [hf, ← hN] at this
  have C2 : ∀ W, Calls Try.prog 18 #[.string s, .int .i64 a, .int .i64 (h : Int)] W fun e w' => e = .returned (.tuple #[.int .u64 A, .bool true]) ∧ W = w' := by
    intro W; have := get_any s a (h : Int) W HS; rwa [f1, ← hA] at this
  have C3 : ∀ W, Calls Try.prog 18 #[.string s, .int .i64 (a + (h : Int)), .int .i64 (h : Int)] W fun e w' => e = .returned (.tuple #[.int .u64 (B : Int), .bool true]) ∧ W = w' := by
    intro W; have := get_any s (a + (h : Int)) (h : Int) W HS; rwa [f2, ← hB] at this
  have HC1 := Lib.hid C1
  have HC2 := Lib.hid C2
  have HC3 := Lib.hid C3
  have hN1 : N ≤ 18446744073709551615 := by rw [hN]; exact getV_le _ _ _
  have hBlt : B < 256 ^ h := by rw [hB]; exact getV_lt _ _ _
  have hA0 : 0 ≤ A := by omega
  have hNab : N = A + ((256 ^ h * B : Nat) : Int) := by rw [hN, hA, hv, hB]; simp
  have HR := Lib.hid (fun k (hk : k < h) => mul_room h k B hh hk hBlt)
  have HN := Lib.hid hNab
  have h4 : h ≤ 4 := by omega
  clear C1 C2 C3 hv hN hA hB hNab hBlt f1 f2 hf hx hh
  go_enter Try.func5, Try.ntmps5
  go_wp2_with fail
  refine (HC1.out _).mono ?_
  rintro e w1 ⟨rfl, rfl⟩
  go_wp2_with fail
  refine (HC2.out _).mono ?_
  rintro e w1 ⟨rfl, rfl⟩
  go_wp2_with fail
  refine (HC3.out _).mono ?_
  rintro e w1 ⟨rfl, rfl⟩
  go_wp2_with fail
  go_loop [12, 14] (fun b i => ∃ k q : Nat, k ≤ h ∧ i = .int .i64 k ∧ b = .int .u64 (q : Int) ∧ q = 256 ^ k * B) (fun _ i => 8 - (intOf i).toNat)
  case atStart => exact ⟨0, B, by omega, rfl, rfl, by simp⟩
  case round =>
    obtain ⟨k, q, hk, rfl, rfl, hq⟩ := hrel
    have HQ := Lib.hid hq
    by_cases hlt : k < h
    · have hr : q * 256 ≤ 18446744073709551615 := by rw [hq]; exact HR.out k hlt
      clear hq
      go_wp2
      go_round
      case rel => exact ⟨k + 1, q * 256, by omega, by go_num, by go_num, by rw [HQ.out, Nat.pow_succ]; simp only [Nat.mul_comm, Nat.mul_left_comm]⟩
      case measure => simp [intOf]; omega
    · obtain rfl : k = h := by omega
      have e1 : N = A + (q : Int) := by rw [hq]; exact HN.out
      have HE : (N == A + (q : Int)) = true := by rw [← e1]; simp
      have hsum : A + (q : Int) ≤ 18446744073709551615 := by omega
      clear hq e1
      go_wp2_with fail
      refine (alive01 _).mono ?_
      rintro e w3 ⟨rfl, hb3⟩
      go_wp2_with fail
      go_ret
      exact ⟨rfl, ((Below.refl _ _).alloc (Nat.le_refl _) _).trans (below_le hb3 (by simp))⟩

/-- no such number -/
theorem halves_no (w : World) (s : ByteArray) (HS : s.size ≤ maxLen) (a : Int) (x : Int) (h0 : 0 ≤ x) (h1 : x ≤ 255) (h : Nat) (hh : h ≤ 4) (hx : x % 3 = 0 ∧ h = 1 ∨ x % 3 = 1 ∧ h = 2 ∨ x % 3 = 2 ∧ h = 4)
    (hf : fits s.size a (2 * (h : Int)) = false) :
    Calls Try.prog 5 #[.string s, .int .i64 a, .int .u8 x] w fun e w' => e = .returned (.bool true) ∧ Below w.heap.size w w' := by
  have hL : [Value.int IntKind.i64 1, Value.int IntKind.i64 2, Value.int IntKind.i64 4][(x % 3).toNat]? = some (.int .i64 (h : Int)) := by
    rcases hx with ⟨e, rfl⟩ | ⟨e, rfl⟩ | ⟨e, rfl⟩ <;> rw [e] <;> rfl
  have C1 : ∀ W, Calls Try.prog 18 #[.string s, .int .i64 a, .int .i64 (2 * (h : Int))] W fun e w' => e = .returned (.tuple #[.int .u64 0, .bool false]) ∧ W = w' := by
    intro W; exact get_no s a (2 * (h : Int)) W HS hf
  have HC1 := Lib.hid C1
  clear C1 hf hx
  go_enter Try.func5, Try.ntmps5
  go_wp2_with fail
  refine (HC1.out _).mono ?_
  rintro e w1 ⟨rfl, rfl⟩
  go_wp2_with fail
  refine (alive01 _).mono ?_
  rintro e w3 ⟨rfl, hb3⟩
  go_wp2_with fail
  go_ret
  exact ⟨rfl, ((Below.refl _ _).alloc (Nat.le_refl _) _).trans (below_le hb3 (by simp))⟩

theorem walk_wordsHalves (w : World) (s : ByteArray) (hs : s.size ≤ 140737488351232) (a : Int) (ha0 : -9223372036854775808 ≤ a) (ha1 : a ≤ 9223372036854775807) (x : Int) (h0 : 0 ≤ x) (h1 : x ≤ 255) :
    Calls Try.prog 5 #[.string s, .int .i64 a, .int .u8 x] w fun e w' => e = .returned (.bool true) ∧ Below w.heap.size w w' := by
  have HS := size_le_maxLen hs
  obtain ⟨h, hh, hx⟩ : ∃ h : Nat, (h = 1 ∨ h = 2 ∨ h = 4) ∧ (x % 3 = 0 ∧ h = 1 ∨ x % 3 = 1 ∧ h = 2 ∨ x % 3 = 2 ∧ h = 4) := by
    rcases (show x % 3 = 0 ∨ x % 3 = 1 ∨ x % 3 = 2 by omega) with e | e | e
    · exact ⟨1, by simp, by simp [e]⟩
    · exact ⟨2, by simp, by simp [e]⟩
    · exact ⟨4, by simp, by simp [e]⟩
  by_cases hf : fits s.size a (2 * (h : Int)) = true
  · obtain ⟨k1, k2, k3⟩ := fits_iff.1 hf
    exact halves_yes w s HS a x h0 h1 (by omega) k2 h hh hx hf
  · rw [Bool.not_eq_true] at hf
    exact halves_no w s HS a x h0 h1 h (by omega) hx hf

/-! ### the frame (printed by mklaw.py) -/

set_option maxRecDepth 100000 in
theorem lifted_wordsHalves (os : Os) (started : os.Started) (H : Type) (enc : TypeId × Value → H) :
    ReturnsInHanded {} Try.checked os 5 .any (Rows.wordsHalvesSpec.pre6 enc Try.prog Try.f5 Rows.wordsHalvesRow.domain false) (Rows.wordsHalvesSpec.post enc Try.prog Try.f5 false true false false) := by
  refine law_step (C := Try.checked) (tb := 4) (by kernel_rfl) (by kernel_rfl) started (by kernel_rfl) Try.func5 rfl Try.underlying4 rfl ?_ ?_
    (ChangeSpec.witness6 (enc := enc) (C := Try.checked) false ⟨#[], #[.string ByteArray.empty, .int .i64 0, .int .u8 0], []⟩ 8 (by kernel_rfl) (by kernel_rfl) (by kernel_rfl) (by kernel_rfl)) ?_
  · intro ds hl
    match ds, hl with
    | [d0, d1, d2], _ => rfl
  · intro t ht
    rw [show Try.f5.params.toList = [9, 3, 5] from by rw [Try.params5]] at ht
    simp only [List.mem_cons, List.not_mem_nil, or_false] at ht
    rcases ht with rfl | rfl | rfl
    · exact ⟨by kernel_rfl, of_decide_eq_true (by kernel_rfl)⟩
    · exact ⟨by kernel_rfl, of_decide_eq_true (by kernel_rfl)⟩
    · exact ⟨by kernel_rfl, of_decide_eq_true (by kernel_rfl)⟩
  · intro W args hG
    rw [show Try.f5.params.toList = [9, 3, 5] from by rw [Try.params5]] at hG
    obtain ⟨v0, v1, v2, rfl, g0, g1, g2⟩ := gotAll_args3 hG
    obtain ⟨a0, rfl, b0⟩ := got_string Try.underlying9 g0
    obtain ⟨a1, rfl, b1, c1⟩ := got_i64 Try.underlying3 g1
    obtain ⟨a2, rfl, b2, c2⟩ := got_u8 Try.underlying5 g2
    exact walk_wordsHalves W a0 b0 a1 b1 c1 a2 b2 c2

theorem wordsHalves_over : Rows.wordsHalvesRow.holds Try.pinned (OpenSpec.ofChange Rows.wordsHalvesSpec) :=
  OpenClaim.holds_of_wide 5 Try.f5 rfl rfl rfl rfl rfl rfl rfl ⟨rfl, rfl, rfl, rfl, rfl⟩ rfl rfl rfl rfl rfl (by kernel_rfl) Try.func5 (by kernel_rfl)
    (of_decide_eq_true (by kernel_rfl)) (by unfold Func.isWrapper; first | (rw [if_pos (by decide +kernel)]; kernel_rfl) | (rw [if_neg (by decide +kernel)]; exact ⟨rfl, rfl⟩))
    (fun os started H enc _ => lifted_wordsHalves os started H enc)

theorem wordsHalves_holds : Rows.WordsHalvesSaid := wordsHalves_over
#print axioms wordsHalves_holds

end Go.Proofs.Ytmljampbajjmlaa
