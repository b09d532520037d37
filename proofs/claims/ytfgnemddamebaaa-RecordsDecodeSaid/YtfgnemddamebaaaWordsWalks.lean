/- Walks: what words.Get, Put, GetInt, PutInt and their references compute. -/
import Derived.Test.YtfgnemddamebaaaRows
import Derived.Test.YtfgnemddamebaaaPlainWords
import Derived.Test.YtfgnemddamebaaaMem
import Derived.WalkKit
import Derived.WalkSpells
import Derived.WalkLawsBesides
import Derived.Lib.Hide
import Derived.BigQuiet
import Derived.Deep.QuietTactic
set_option linter.unusedVariables false
set_option linter.unusedSimpArgs false
set_option maxRecDepth 100000
namespace Go.Proofs.Ytfgnemddamebaaa
open Go.RowKit

set_option maxHeartbeats 400000 in
theorem within_any (s : ByteArray) (a n : Int) (w : World) (hs : s.size ≤ maxLen) :
    Calls Try.prog 39 #[.string s, .int .i64 a, .int .i64 n] w fun e w' => e = .returned (.bool (fits s.size a n)) ∧ w = w' := by
  unfold maxLen at hs
  by_cases ho : okSize n = true
  · rcases okSize_or ho with rfl | rfl | rfl | rfl
    all_goals
      clear ho
      go_enter Try.func39, Try.ntmps39
      go_wp2
      all_goals
        go_ret
        refine ⟨?_, rfl⟩
        simp [fits, okSize, *]
        try (intros; omega)
  · go_enter Try.func39, Try.ntmps39
    have h1 : (n == 1) = false := by simp [okSize] at ho; simp; omega
    have h2 : (n == 2) = false := by simp [okSize] at ho; simp; omega
    have h3 : (n == 4) = false := by simp [okSize] at ho; simp; omega
    have h4 : (n == 8) = false := by simp [okSize] at ho; simp; omega
    go_wp2
    go_ret
    refine ⟨?_, rfl⟩
    simp [fits, okSize, *]

set_option maxHeartbeats 400000 in
theorem rwithin_any (s : ByteArray) (a n : Int) (w : World) (hs : s.size ≤ maxLen) :
    Calls Try.prog 54 #[.string s, .int .i64 a, .int .i64 n] w fun e w' => e = .returned (.bool (fits s.size a n)) ∧ w = w' := by
  unfold maxLen at hs
  by_cases ho : okSize n = true
  · rcases okSize_or ho with rfl | rfl | rfl | rfl
    all_goals
      clear ho
      go_enter Try.func54, Try.ntmps54
      go_wp2
      all_goals
        go_ret
        refine ⟨?_, rfl⟩
        simp [fits, okSize, *]
        try (intros; omega)
  · go_enter Try.func54, Try.ntmps54
    have h1 : (n != 1) = true := by simp [okSize] at ho; simp; omega
    have h2 : (n != 2) = true := by simp [okSize] at ho; simp; omega
    have h3 : (n != 4) = true := by simp [okSize] at ho; simp; omega
    have h4 : (n != 8) = true := by simp [okSize] at ho; simp; omega
    go_wp2
    go_ret
    refine ⟨?_, rfl⟩
    have h1 : (n == 1) = false := by simp [okSize] at ho; simp; omega
    have h2 : (n == 2) = false := by simp [okSize] at ho; simp; omega
    have h3 : (n == 4) = false := by simp [okSize] at ho; simp; omega
    have h4 : (n == 8) = false := by simp [okSize] at ho; simp; omega
    simp [fits, okSize, *]

/-- one round of Get in the walk's own words -/
theorem get_round (s : ByteArray) (a : Int) (k : Nat) (h0 : 0 ≤ a) (hk : k < 8) (hl : a + k < s.size) (h : (a + (k : Int)).toNat < s.size) :
    bits BinOp.or IntKind.u64 (getL s.data.toList a (k : Int)) (IntKind.u64.wrap (IntKind.u64.wrap (s[(a + (k : Int)).toNat].toNat : Int) * 2 ^ (8 * k)))
      = ((getL s.data.toList a ((k + 1 : Nat) : Int) : Nat) : Int) := by
  have hlen : s.data.toList.length = s.size := by simp
  rw [getL_succ _ a k h0 (by rw [hlen]; exact hl)]
  have eb : (s.data.toList[a.toNat + k]'(by rw [hlen]; omega)) = s[(a + (k : Int)).toNat] := by
    have e : (a + (k : Int)).toNat = a.toNat + k := by omega
    simp only [e]
    rfl
  rw [eb]
  generalize s[(a + (k : Int)).toNat] = b
  have hb : b.toNat < 256 := UInt8.toNat_lt b
  have hg : getL s.data.toList a (k : Int) < 256 ^ k := by simpa using getL_lt s.data.toList a (k : Int)
  generalize getL s.data.toList a (k : Int) = x at hg ⊢
  have hp : (2 : Int) ^ (8 * k) = ((256 ^ k : Nat) : Int) := by rw [Int.pow_mul]; simp
  have hp2 : (256 : Nat) ^ k = 2 ^ (8 * k) := by rw [Nat.pow_mul]
  have hkk : (256 : Nat) ^ k ≤ 256 ^ 7 := Nat.pow_le_pow_right (by decide) (by omega)
  have hm : b.toNat * 256 ^ k ≤ 255 * 256 ^ 7 := Nat.mul_le_mul (by omega) hkk
  have hc : (256 : Nat) ^ 7 = 72057594037927936 := by decide
  rw [IntKind.wrap_u64, IntKind.wrap_u64, hp]
  have e1 : ((b.toNat : Int) % 18446744073709551616) = (b.toNat : Int) := by omega
  rw [e1, ← Int.natCast_mul]
  have e2 : (((b.toNat * 256 ^ k : Nat) : Int) % 18446744073709551616) = ((b.toNat * 256 ^ k : Nat) : Int) := by omega
  rw [e2, u64_or_nat _ _ (by omega) (by omega)]
  congr 1
  rw [Nat.or_comm, nat_join (8 * k) _ _ (by rw [hp2]; simp) (by rw [← hp2]; exact hg), Nat.mul_comm, Nat.add_comm]

set_option maxHeartbeats 400000 in
theorem get_yes (s : ByteArray) (a n : Int) (w : World) (hs : s.size ≤ maxLen) (hf : fits s.size a n = true) :
    Calls Try.prog 22 #[.string s, .int .i64 a, .int .i64 n] w fun e w' => e = .returned (.tuple #[.int .u64 (getL s.data.toList a n), .bool true]) ∧ w = w' := by
  obtain ⟨hn, h0, h1⟩ := fits_iff.1 hf
  have h2 : 1 ≤ n := by omega
  have h3 : n ≤ 8 := by omega
  have HS := hs
  unfold maxLen at hs
  clear hn
  go_enter Try.func22, Try.ntmps22
  go_wp2_with (go_at_call 39; refine (within_any _ _ _ _ HS).mono ?_; rintro e w' ⟨rfl, rfl⟩)
  go_loop [8, 16, 9] (fun v i _ => ∃ k : Nat, k ≤ n ∧ i = .int .i64 k ∧ v = .int .u64 (getL s.data.toList a (k : Int))) (fun _ i _ => 8 - (intOf i).toNat)
  case atStart => exact ⟨0, by omega, rfl, by simp [getL, leVal]⟩
  case round =>
    obtain ⟨k, hk, rfl, rfl⟩ := hrel
    by_cases hlt : (k : Int) < n
    · have H := Lib.hid (get_round s a k h0 (by omega) (by omega) (by omega))
      go_wp2
      go_round
      case rel => exact ⟨k + 1, by omega, by go_num, by rw [H.out]⟩
      case measure => simp [intOf]; omega
    · go_wp2
      go_ret2
      have : (k : Int) = n := by omega
      subst this
      exact ⟨rfl, rfl⟩

set_option maxHeartbeats 400000 in
theorem get_no (s : ByteArray) (a n : Int) (w : World) (hs : s.size ≤ maxLen) (hf : fits s.size a n = false) :
    Calls Try.prog 22 #[.string s, .int .i64 a, .int .i64 n] w fun e w' => e = .returned (.tuple #[.int .u64 0, .bool false]) ∧ w = w' := by
  go_enter Try.func22, Try.ntmps22
  go_wp2_with (go_at_call 39; refine (within_any _ _ _ _ hs).mono ?_; rintro e w' ⟨rfl, rfl⟩)
  go_ret2
  exact ⟨rfl, rfl⟩

/-- what Get answers -/
def getV (s : ByteArray) (a n : Int) : Nat := if fits s.size a n then getL s.data.toList a n else 0

theorem get_any (s : ByteArray) (a n : Int) (w : World) (hs : s.size ≤ maxLen) :
    Calls Try.prog 22 #[.string s, .int .i64 a, .int .i64 n] w fun e w' => e = .returned (.tuple #[.int .u64 (getV s a n), .bool (fits s.size a n)]) ∧ w = w' := by
  by_cases hf : fits s.size a n = true
  · simpa [getV, hf] using get_yes s a n w hs hf
  · simp only [Bool.not_eq_true] at hf
    simpa [getV, hf] using get_no s a n w hs hf

end Go.Proofs.Ytfgnemddamebaaa
