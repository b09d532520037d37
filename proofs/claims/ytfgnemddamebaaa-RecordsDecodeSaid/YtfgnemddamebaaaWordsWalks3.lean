/- Walks: the references of words. -/
import Derived.Test.YtfgnemddamebaaaWordsWalks2
set_option linter.unusedVariables false
set_option linter.unusedSimpArgs false
set_option maxRecDepth 100000
namespace Go.Proofs.Ytfgnemddamebaaa
open Go.RowKit Go.Joins

/-- one round of the reference's Get in the walk's own words -/
theorem rget_round (s : ByteArray) (a n : Int) (k : Nat) (h0 : 0 ≤ a) (hk : 1 ≤ k) (hkn : k ≤ n) (hn : n ≤ 8) (hl : a + n ≤ s.size) (h : (a + ((k : Int) - 1)).toNat < s.size) :
    IntKind.u64.wrap (IntKind.u64.wrap ((getL s.data.toList (a + (k : Int)) (n - (k : Int)) : Nat) * 256) + IntKind.u64.wrap (s[(a + ((k : Int) - 1)).toNat].toNat : Int))
      = ((getL s.data.toList (a + ((k - 1 : Nat) : Int)) (n - ((k - 1 : Nat) : Int)) : Nat) : Int) := by
  obtain ⟨j, rfl⟩ : ∃ j, k = j + 1 := ⟨k - 1, by omega⟩
  have hlen : s.data.toList.length = s.size := by simp
  obtain ⟨m, hm⟩ : ∃ m : Nat, n - ((j + 1 : Nat) : Int) = m := ⟨(n - ((j + 1 : Nat) : Int)).toNat, by omega⟩
  have e1 : n - ((j + 1 - 1 : Nat) : Int) = ((m + 1 : Nat) : Int) := by omega
  have e2 : a + ((j + 1 - 1 : Nat) : Int) = a + (j : Int) := by omega
  have e3 : a + ((j + 1 : Nat) : Int) = a + (j : Int) + 1 := by omega
  rw [hm, e1, e2, getL_head _ (a + (j : Int)) m (by omega) (by rw [hlen]; omega), e3]
  have eb : (s.data.toList[(a + (j : Int)).toNat]'(by rw [hlen]; omega)) = s[(a + (((j + 1 : Nat) : Int) - 1)).toNat] := by
    have e : (a + (((j + 1 : Nat) : Int) - 1)).toNat = (a + (j : Int)).toNat := by omega
    simp only [e]
    rfl
  rw [eb]
  generalize s[(a + (((j + 1 : Nat) : Int) - 1)).toNat] = b
  have hb : b.toNat < 256 := UInt8.toNat_lt b
  have hg := getL_lt s.data.toList (a + (j : Int) + 1) (m : Int)
  generalize getL s.data.toList (a + (j : Int) + 1) (m : Int) = x at hg ⊢
  have hkk : (256 : Nat) ^ ((m : Int)).toNat ≤ 256 ^ 7 := Nat.pow_le_pow_right (by decide) (by omega)
  have hc : (256 : Nat) ^ 7 = 72057594037927936 := by decide
  rw [IntKind.wrap_u64, IntKind.wrap_u64, IntKind.wrap_u64]
  omega

set_option maxHeartbeats 400000 in
theorem rget_any (s : ByteArray) (a n : Int) (w : World) (hs : s.size ≤ maxLen) :
    Calls Try.prog 37 #[.string s, .int .i64 a, .int .i64 n] w fun e w' => e = .returned (.tuple #[.int .u64 (getV s a n), .bool (fits s.size a n)]) ∧ w = w' := by
  by_cases hf : fits s.size a n = true
  · rw [getV, if_pos hf, hf]
    obtain ⟨hn, h0, h1⟩ := fits_iff.1 hf
    have h2 : 1 ≤ n := by omega
    have h3 : n ≤ 8 := by omega
    have HS := hs
    unfold maxLen at hs
    clear hn
    go_enter Try.func37, Try.ntmps37
    go_wp2_with (go_at_call 54; refine (rwithin_any _ _ _ _ HS).mono ?_; rintro e w' ⟨rfl, rfl⟩)
    go_loop [8, 9] (fun v i => ∃ k : Nat, k ≤ n ∧ i = .int .i64 ((k : Int) - 1) ∧ v = .int .u64 (getL s.data.toList (a + (k : Int)) (n - (k : Int)))) (fun _ i => (intOf i + 1).toNat)
    case atStart => exact ⟨n.toNat, by omega, by simp; omega, by have : (n - (n.toNat : Int)).toNat = 0 := by omega
                                                                 simp [getL, leVal, this]⟩
    case round =>
      obtain ⟨k, hk, rfl, rfl⟩ := hrel
      by_cases hlt : 0 ≤ (k : Int) - 1
      · have H := Lib.hid (rget_round s a n k h0 (by omega) hk h3 h1 (by omega))
        go_wp2
        go_round
        case rel => exact ⟨k - 1, by omega, by go_num, by rw [H.out]⟩
        case measure => simp [intOf]; omega
      · go_wp2
        go_ret2
        have : k = 0 := by omega
        subst this
        exact ⟨by simp, rfl⟩
  · rw [Bool.not_eq_true] at hf
    rw [getV, hf, if_neg (by simp)]
    go_enter Try.func37, Try.ntmps37
    go_wp2_with (go_at_call 54; refine (rwithin_any _ _ _ _ hs).mono ?_; rintro e w' ⟨rfl, rfl⟩)
    go_ret2
    exact ⟨rfl, rfl⟩

set_option maxHeartbeats 400000 in
theorem rput_in (s : ByteArray) (a n v : Int) (w : World) (hs : s.size ≤ maxLen) (hf : fits s.size a n = true) (hv0 : 0 ≤ v) (hv1 : v ≤ 18446744073709551615) :
    Calls Try.prog 52 #[.string s, .int .i64 a, .int .i64 n, .int .u64 v] w fun e w' => e = .returned (.tuple #[.string (putV s a n v), .bool (putOk s a n v)]) ∧ Below w.heap.size w w' := by
  obtain ⟨hn, h0, h1⟩ := fits_iff.1 hf
  have h2 : 1 ≤ n := by omega
  have h3 : n ≤ 8 := by omega
  have HS := hs
  unfold maxLen at hs
  clear hn
  go_enter Try.func52, Try.ntmps52
  go_wp2_with (go_at_call 54; refine (rwithin_any _ _ _ _ HS).mono ?_; rintro e w' ⟨rfl, rfl⟩)
  go_loopw [10, 3, 11] (fun b u i wr => ∃ (k : Nat) (q : Int), k ≤ n ∧ i = .int .i64 k ∧ b = .string ⟨(leBytes k v.toNat).toArray⟩ ∧ u = .int .u64 q ∧ 0 ≤ q ∧ q ≤ 18446744073709551615 ∧ q = v / 256 ^ k ∧ Below w.heap.size w wr) (fun _ _ i _ => 8 - (intOf i).toNat)
  case atStart => exact ⟨0, v, by omega, rfl, by simp [leBytes], rfl, hv0, hv1, by simp, Below.refl _ _⟩
  case round =>
    obtain ⟨k, q, hk, rfl, rfl, rfl, hq0, hq1, hq, hbel⟩ := hrel
    have HQ := Lib.hid hq
    clear hq
    by_cases hlt : (k : Int) < n
    · have hone := conv_one (P := Try.prog) wr 62 9 5 (q % 256) Try.underlying62 Try.underlying5 Try.underlying9 (by omega) (by omega)
      have hll : ¬ 9223372036854775807 < (leBytes k v.toNat).length + 1 := by rw [leBytes_length]; omega
      go_wp2
      go_roundw
      case rel =>
        refine ⟨k + 1, q / 256, by omega, by go_num, ?_, rfl, by omega, by omega, ?_, hbel.alloc hbel.size _⟩
        · congr 1
          rw [leBytes_snoc, HQ.out]
          rw [show (v / 256 ^ k % 256).toNat = v.toNat / 256 ^ k % 256 from quot_byte v k hv0]
          exact ByteArray.mk_append_mk _ _
        · rw [HQ.out]; exact quot_step v k hv0
      case measure => simp [intOf]; omega
    · have hkn : (k : Int) = n := by omega
      have hkn' : n.toNat = k := by omega
      have hqv : v.toNat < 256 ^ n.toNat ↔ ¬ 0 < q := by
        rw [hkn', HQ.out]
        exact quot_room v k hv0
      by_cases hqz : 0 < q
      · have HP : Hid (putOk s a n v = false) := Lib.hid (by
          have : ¬ v.toNat < 256 ^ n.toNat := fun c => (hqv.1 c) hqz
          simp [putOk, this])
        clear hqv hkn hkn'
        go_wp2
        go_ret2
        rw [putV, HP.out]
        exact ⟨rfl, hbel⟩
      · have HP : Hid (putOk s a n v = true) := Lib.hid (by simp [putOk, hf, hqv.2 hqz])
        have HN := Lib.hid hkn'
        have ha1 : a ≤ s.size := by omega
        have han : 0 ≤ a + n := by omega
        have g1 : ¬ 9223372036854775807 < a.toNat + (leBytes k v.toNat).length := by rw [leBytes_length]; omega
        have g2 : ¬ 9223372036854775807 < a.toNat + (leBytes k v.toNat).length + (s.size - (a + n).toNat) := by rw [leBytes_length]; omega
        clear hqv hkn hkn'
        go_wp2
        go_quiet (fail)
        go_wp2
        go_ret2
        refine ⟨?_, by first | exact hbel | exact hbel.trans (by exact below_draws _ _ _)⟩
        rw [putV, HP.out, cut_join, ← HN.out]
        have e : (a + n).toNat = a.toNat + n.toNat := by omega
        rw [e]
        rfl

set_option maxHeartbeats 400000 in
theorem rput_out (s : ByteArray) (a n v : Int) (w : World) (hs : s.size ≤ maxLen) (hf : fits s.size a n = false) :
    Calls Try.prog 52 #[.string s, .int .i64 a, .int .i64 n, .int .u64 v] w fun e w' => e = .returned (.tuple #[.string ⟨#[]⟩, .bool false]) ∧ Below w.heap.size w w' := by
  go_enter Try.func52, Try.ntmps52
  go_wp2_with (go_at_call 54; refine (rwithin_any _ _ _ _ hs).mono ?_; rintro e w' ⟨rfl, rfl⟩)
  go_ret2
  exact ⟨rfl, Below.refl _ _⟩

theorem rput_any (s : ByteArray) (a n v : Int) (w : World) (hs : s.size ≤ maxLen) (hv0 : 0 ≤ v) (hv1 : v ≤ 18446744073709551615) :
    Calls Try.prog 52 #[.string s, .int .i64 a, .int .i64 n, .int .u64 v] w fun e w' => e = .returned (.tuple #[.string (putV s a n v), .bool (putOk s a n v)]) ∧ Below w.heap.size w w' := by
  by_cases hf : fits s.size a n = true
  · exact rput_in s a n v w hs hf hv0 hv1
  · rw [Bool.not_eq_true] at hf
    have e : putOk s a n v = false := by rw [putOk, hf]; rfl
    rw [putV, e, if_neg (by simp)]
    exact rput_out s a n v w hs hf

/-! ### the ints -/

/-- what GetInt answers -/
def getIOk (s : ByteArray) (a n : Int) : Bool := fits s.size a n && decide (getL s.data.toList a n ≤ 9223372036854775807)
def getIV (s : ByteArray) (a n : Int) : Int := if getIOk s a n then getL s.data.toList a n else 0

theorem getV_le (s : ByteArray) (a n : Int) : (getV s a n : Int) ≤ 18446744073709551615 := by
  unfold getV
  by_cases h : fits s.size a n = true
  · rw [if_pos h]
    have h1 := getL_lt s.data.toList a n
    have h2 : okSize n = true := by simp only [fits, Bool.and_eq_true] at h; exact h.1
    have := pow_le_of_size h2
    omega
  · rw [if_neg h]; decide

theorem getIV_le (s : ByteArray) (a n : Int) : 0 ≤ getIV s a n ∧ getIV s a n ≤ 9223372036854775807 := by
  unfold getIV getIOk
  split
  · rename_i h
    simp only [Bool.and_eq_true, decide_eq_true_eq] at h
    omega
  · omega

set_option maxHeartbeats 400000 in
theorem getint_any (s : ByteArray) (a n : Int) (w : World) (hs : s.size ≤ maxLen) :
    Calls Try.prog 21 #[.string s, .int .i64 a, .int .i64 n] w fun e w' => e = .returned (.tuple #[.int .i64 (getIV s a n), .bool (getIOk s a n)]) ∧ w = w' := by
  obtain ⟨x, hx⟩ : ∃ x : Int, x = getV s a n := ⟨_, rfl⟩
  have h0 : 0 ≤ x := by omega
  have h1 : x ≤ 18446744073709551615 := by rw [hx]; exact getV_le s a n
  have HG : Hid (Calls Try.prog 22 #[.string s, .int .i64 a, .int .i64 n] w fun e w' => e = .returned (.tuple #[.int .u64 x, .bool (fits s.size a n)]) ∧ w = w') := by
    rw [hx]; exact get_any s a n w hs
  by_cases hb : 9223372036854775807 < x
  · have HF : Hid (getIOk s a n = false) := by
      show _ = _
      unfold getIOk
      unfold getV at hx
      by_cases h : fits s.size a n = true
      · rw [if_pos h] at hx; rw [h, Bool.true_and, decide_eq_false_iff_not]; omega
      · rw [Bool.not_eq_true] at h; rw [h]; rfl
    clear hx
    go_enter Try.func21, Try.ntmps21
    go_wp2_with (go_at_call 22; refine HG.out.mono ?_; rintro e w' ⟨rfl, rfl⟩)
    go_ret2
    rw [getIV, HF.out]
    exact ⟨rfl, rfl⟩
  · have HF : Hid (getIOk s a n = fits s.size a n ∧ getIV s a n = x) := by
      show _ ∧ _
      unfold getIV getIOk
      unfold getV at hx
      by_cases h : fits s.size a n = true
      · rw [if_pos h] at hx
        have : decide (getL s.data.toList a n ≤ 9223372036854775807) = true := by rw [decide_eq_true_eq]; omega
        rw [h, this]
        exact ⟨rfl, by simp [hx]⟩
      · rw [Bool.not_eq_true] at h
        rw [h] at hx ⊢
        simp at hx
        simp [hx]
    clear hx
    go_enter Try.func21, Try.ntmps21
    go_wp2_with (go_at_call 22; refine HG.out.mono ?_; rintro e w' ⟨rfl, rfl⟩)
    go_ret2
    rw [HF.out.1, HF.out.2]
    exact ⟨rfl, rfl⟩

/-- what PutInt answers -/
def putIOk (s : ByteArray) (a n v : Int) : Bool := decide (0 ≤ v) && putOk s a n v
def putIV (s : ByteArray) (a n v : Int) : ByteArray := if putIOk s a n v then ⟨(putL s.data.toList a n v.toNat).toArray⟩ else ⟨#[]⟩

theorem putIV_nonneg {s : ByteArray} {a n v : Int} (h : 0 ≤ v) : putIOk s a n v = putOk s a n v ∧ putIV s a n v = putV s a n v := by
  have e : putIOk s a n v = putOk s a n v := by simp [putIOk, h]
  exact ⟨e, by rw [putIV, putV, e]⟩
theorem putIV_neg {s : ByteArray} {a n v : Int} (h : ¬ 0 ≤ v) : putIOk s a n v = false ∧ putIV s a n v = ⟨#[]⟩ := by
  have e : putIOk s a n v = false := by simp [putIOk, h]
  exact ⟨e, by rw [putIV, e]; rfl⟩

set_option maxHeartbeats 400000 in
theorem putint_any (s : ByteArray) (a n v : Int) (w : World) (hs : s.size ≤ maxLen) (hv1 : v ≤ 9223372036854775807) :
    Calls Try.prog 40 #[.string s, .int .i64 a, .int .i64 n, .int .i64 v] w fun e w' => e = .returned (.tuple #[.string (putIV s a n v), .bool (putIOk s a n v)]) ∧ Below w.heap.size w w' := by
  by_cases h0 : 0 ≤ v
  · rw [(putIV_nonneg h0).1, (putIV_nonneg h0).2]
    go_enter Try.func40, Try.ntmps40
    go_wp2_with (go_at_call 28; refine (put_any _ _ _ _ _ hs (by omega) (by omega)).mono ?_; rintro e w' ⟨rfl, hb⟩)
    go_ret2
    exact ⟨rfl, hb⟩
  · rw [(putIV_neg h0).1, (putIV_neg h0).2]
    go_enter Try.func40, Try.ntmps40
    go_wp2
    go_ret2
    exact ⟨rfl, Below.refl _ _⟩

end Go.Proofs.Ytfgnemddamebaaa
