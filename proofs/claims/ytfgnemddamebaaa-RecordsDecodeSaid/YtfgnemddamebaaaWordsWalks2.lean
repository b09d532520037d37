/- Walks: words.Put and its reference; the ints. -/
import Derived.Test.YtfgnemddamebaaaWordsWalks
set_option linter.unusedVariables false
set_option linter.unusedSimpArgs false
set_option maxRecDepth 100000
namespace Go.Proofs.Ytfgnemddamebaaa
open Go.RowKit

set_option maxHeartbeats 400000 in
theorem put_yes (s : ByteArray) (a n v : Int) (w : World) (hs : s.size ≤ maxLen) (hf : fits s.size a n = true) (hv0 : 0 ≤ v) (hv1 : v ≤ 18446744073709551615) (hv : v.toNat < 256 ^ n.toNat) :
    Calls Try.prog 28 #[.string s, .int .i64 a, .int .i64 n, .int .u64 v] w fun e w' => e = .returned (.tuple #[.string ⟨(putL s.data.toList a n v.toNat).toArray⟩, .bool true]) ∧ Below w.heap.size w w' := by
  obtain ⟨hn, h0, h1⟩ := fits_iff.1 hf
  have h2 : 1 ≤ n := by omega
  have h3 : n ≤ 8 := by omega
  have HS := hs
  unfold maxLen at hs
  clear hn
  have hq : v / 2 ^ (8 * n).toNat ≤ 0 := (room_iff v n hv0 (by omega)).2 hv
  clear hv
  obtain ⟨cap, W1, hconv, hbel, hrow, hsz⟩ := conv_bytes (P := Try.prog) w 9 62 5 s Try.underlying9 Try.underlying62 Try.underlying5
  have HZ := Lib.hid hsz
  clear hsz
  by_cases hn8 : n < 8
  all_goals
    go_enter Try.func28, Try.ntmps28
    go_wp2_with (go_at_call 39; refine (within_any _ _ _ _ HS).mono ?_; rintro e w' ⟨rfl, rfl⟩)
    go_loopw [31, 11] (fun i _ wr => ∃ k : Nat, k ≤ n ∧ i = .int .i64 k ∧ RowAt wr w.heap.size (bcells (putL (bts s) a (k : Int) v.toNat)) ∧ Below w.heap.size w wr) (fun i _ _ => 8 - (intOf i).toNat)
    case atStart => exact ⟨0, by omega, rfl, by rw [show ((0 : Nat) : Int) = 0 from rfl, putL_zero]; exact hrow, hbel⟩
    case round =>
      obtain ⟨k, hk, rfl, hrow', hbel'⟩ := hrel
      by_cases hlt : (k : Int) < n
      · have hlen : (bcells (putL (bts s) a (k : Int) v.toNat)).length = s.size := by rw [bcells_length, putL_len _ _ _ _ (by rw [bts_length]; omega), bts_length]
        obtain ⟨old, hc⟩ := hrow'.there (a + (k : Int)).toNat (by rw [hlen]; omega)
        have hz := hrow'.frozen (a + (k : Int)).toNat (by rw [hlen]; omega)
        clear hlen
        go_wp2
        go_roundw
        case rel =>
          refine ⟨k + 1, by omega, by go_num, ?_, hbel'.setCell (Nat.le_refl _) _⟩
          have e : (a + (k : Int)).toNat = a.toNat + k := by omega
          rw [byte_of v k hv0, putL_succ _ _ _ _ (by rw [bts_length]; omega), ← bcells_set, e]
          exact hrow'.set _ _
        case measure => simp [intOf]; omega
      · have hkn : (k : Int) = n := by omega
        have hback := conv_string (P := Try.prog) wr 62 9 5 w.heap.size s.size cap _ Try.underlying62 Try.underlying5 Try.underlying9 hrow' (by rw [putL_len _ _ _ _ (by rw [bts_length]; omega), bts_length])
        subst hkn
        go_wp2
        go_ret2
        exact ⟨rfl, hbel'⟩

/-- whether Put puts -/
def putOk (s : ByteArray) (a n v : Int) : Bool := fits s.size a n && decide (v.toNat < 256 ^ n.toNat)
/-- what Put answers -/
def putV (s : ByteArray) (a n v : Int) : ByteArray := if putOk s a n v then ⟨(putL s.data.toList a n v.toNat).toArray⟩ else ⟨#[]⟩

set_option maxHeartbeats 400000 in
theorem put_no (s : ByteArray) (a n v : Int) (w : World) (hs : s.size ≤ maxLen) (hf : putOk s a n v = false) (hv0 : 0 ≤ v) (hv1 : v ≤ 18446744073709551615) :
    Calls Try.prog 28 #[.string s, .int .i64 a, .int .i64 n, .int .u64 v] w fun e w' => e = .returned (.tuple #[.string ⟨#[]⟩, .bool false]) ∧ Below w.heap.size w w' := by
  have HS := hs
  unfold maxLen at hs
  by_cases hff : fits s.size a n = true
  · obtain ⟨hn, h0, h1⟩ := fits_iff.1 hff
    have h2 : 1 ≤ n := by omega
    have h3 : n ≤ 8 := by omega
    have hv : ¬ v.toNat < 256 ^ n.toNat := by
      intro c; simp [putOk, hff, c] at hf
    have hq : 0 < v / 2 ^ (8 * n).toNat := by
      have := (room_iff v n hv0 (by omega)).1
      by_cases c : v / 2 ^ (8 * n).toNat ≤ 0
      · exact absurd (this c) hv
      · omega
    have hn8 : n < 8 := by
      rcases hn with rfl | rfl | rfl | rfl
      · decide
      · decide
      · decide
      · exfalso; apply hv; have : (256 : Nat) ^ (8 : Int).toNat = 18446744073709551616 := by decide
        omega
    clear hv hn hf
    go_enter Try.func28, Try.ntmps28
    go_wp2_with (go_at_call 39; refine (within_any _ _ _ _ HS).mono ?_; rintro e w' ⟨rfl, rfl⟩)
    go_ret2
    exact ⟨rfl, Below.refl _ _⟩
  · have hff : fits s.size a n = false := by simpa using hff
    clear hf
    go_enter Try.func28, Try.ntmps28
    go_wp2_with (go_at_call 39; refine (within_any _ _ _ _ HS).mono ?_; rintro e w' ⟨rfl, rfl⟩)
    go_ret2
    exact ⟨rfl, Below.refl _ _⟩

theorem put_any (s : ByteArray) (a n v : Int) (w : World) (hs : s.size ≤ maxLen) (hv0 : 0 ≤ v) (hv1 : v ≤ 18446744073709551615) :
    Calls Try.prog 28 #[.string s, .int .i64 a, .int .i64 n, .int .u64 v] w fun e w' => e = .returned (.tuple #[.string (putV s a n v), .bool (putOk s a n v)]) ∧ Below w.heap.size w w' := by
  by_cases hf : putOk s a n v = true
  · have h := hf
    simp only [putOk, Bool.and_eq_true, decide_eq_true_eq] at h
    rw [putV, if_pos hf, hf]
    exact put_yes s a n v w hs h.1 hv0 hv1 h.2
  · rw [Bool.not_eq_true] at hf
    rw [putV, hf, if_neg (by simp)]
    exact put_no s a n v w hs hf hv0 hv1

end Go.Proofs.Ytfgnemddamebaaa
