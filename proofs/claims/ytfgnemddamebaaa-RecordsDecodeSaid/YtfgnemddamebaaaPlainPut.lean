/- Plain facts: numbers put into bytes 0 behind some bytes; numbers got between some bytes. -/
import Derived.Test.YtfgnemddamebaaaWordsWalks3
import Derived.Test.YtfgnemddamebaaaMem2
set_option linter.unusedVariables false
set_option linter.unusedSimpArgs false
namespace Go.Proofs.Ytfgnemddamebaaa
open Go

/-- bytes as a text -/
abbrev tx (l : List UInt8) : ByteArray := ⟨l.toArray⟩
theorem tx_size (l : List UInt8) : (tx l).size = l.length := by simp [tx, ByteArray.size]
theorem tx_list (l : List UInt8) : (tx l).data.toList = l := by simp [tx]
theorem tx_app (a b : List UInt8) : tx a ++ tx b = tx (a ++ b) := by
  apply ByteArray.ext
  apply Array.toList_inj.1
  simp only [ByteArray.data_append, Array.toList_append]
theorem tx_eq (s : ByteArray) : tx s.data.toList = s := rfl
theorem tx_inj {a b : List UInt8} (h : tx a = tx b) : a = b := by
  have := congrArg (fun s : ByteArray => s.data.toList) h
  simpa using this

theorem zeros_put (A : List UInt8) (n z v : Nat) : putL (A ++ List.replicate (n + z) 0) (A.length : Nat) (n : Nat) v = A ++ leBytes n v ++ List.replicate z 0 := by
  unfold putL
  have e1 : ((A.length : Nat) : Int).toNat = A.length := by omega
  have e2 : ((n : Nat) : Int).toNat = n := by omega
  rw [e1, e2, List.take_left', List.drop_append, List.drop_of_length_le (by omega), List.nil_append]
  · congr 1
    rw [List.drop_replicate]
    congr 1
    omega
  · rfl

theorem put_zeros (A : List UInt8) (n z : Nat) (v : Int) (hn : n = 1 ∨ n = 2 ∨ n = 4 ∨ n = 8) (h0 : 0 ≤ v) (h1 : v.toNat < 256 ^ n) :
    putIOk (tx (A ++ List.replicate (n + z) 0)) (A.length : Nat) (n : Nat) v = true ∧ putIV (tx (A ++ List.replicate (n + z) 0)) (A.length : Nat) (n : Nat) v = tx (A ++ leBytes n v.toNat ++ List.replicate z 0) := by
  have hf : fits (tx (A ++ List.replicate (n + z) 0)).size (A.length : Nat) (n : Nat) = true := by
    rw [tx_size]
    exact fits_iff.2 ⟨by omega, by omega, by simp; omega⟩
  have ok : putIOk (tx (A ++ List.replicate (n + z) 0)) (A.length : Nat) (n : Nat) v = true := by
    rw [putIOk, putOk, hf]
    simp only [Bool.true_and, Bool.and_eq_true, decide_eq_true_eq, Int.toNat_natCast]
    exact ⟨h0, h1⟩
  refine ⟨ok, ?_⟩
  rw [putIV, if_pos ok, tx_list, zeros_put]

theorem get_mid (A R : List UInt8) (n : Nat) (v : Int) (hn : n = 1 ∨ n = 2 ∨ n = 4 ∨ n = 8) (h0 : 0 ≤ v) (h1 : v.toNat < 256 ^ n) (h2 : v ≤ 9223372036854775807) :
    getIOk (tx (A ++ leBytes n v.toNat ++ R)) (A.length : Nat) (n : Nat) = true ∧ getIV (tx (A ++ leBytes n v.toNat ++ R)) (A.length : Nat) (n : Nat) = v := by
  have hf : fits (tx (A ++ leBytes n v.toNat ++ R)).size (A.length : Nat) (n : Nat) = true := by
    rw [tx_size]
    exact fits_iff.2 ⟨by omega, by omega, by simp [leBytes_length]; omega⟩
  have hg : getL (A ++ leBytes n v.toNat ++ R) (A.length : Nat) (n : Nat) = v.toNat := by
    unfold getL
    rw [Int.toNat_natCast, Int.toNat_natCast, List.append_assoc, List.drop_left', List.take_left' (leBytes_length _ _), leVal_leBytes _ _ h1]
    rfl
  have ok : getIOk (tx (A ++ leBytes n v.toNat ++ R)) (A.length : Nat) (n : Nat) = true := by
    rw [getIOk, hf, tx_list, hg]
    simp only [Bool.true_and, decide_eq_true_eq]
    omega
  refine ⟨ok, ?_⟩
  rw [getIV, if_pos ok, tx_list, hg]
  omega

/-- .. where the place and the size are told otherwise -/
theorem get_at {S : List UInt8} {a m : Int} (A R : List UInt8) (n : Nat) (v : Int) (hS : S = A ++ leBytes n v.toNat ++ R) (ha : a = (A.length : Nat)) (hm : m = (n : Nat)) (hn : n = 1 ∨ n = 2 ∨ n = 4 ∨ n = 8) (h0 : 0 ≤ v) (h1 : v.toNat < 256 ^ n) (h2 : v ≤ 9223372036854775807) :
    getIOk (tx S) a m = true ∧ getIV (tx S) a m = v := by
  subst hS ha hm
  exact get_mid A R n v hn h0 h1 h2

/-- a text that fits gives a small number -/
theorem getIOk_small {s : ByteArray} {a n : Int} (hf : fits s.size a n = true) (hn : n ≠ 8) : getIOk s a n = true := by
  obtain ⟨h1, _, _⟩ := fits_iff.1 hf
  rw [getIOk, hf]
  simp only [Bool.true_and, decide_eq_true_eq]
  have := getL_lt s.data.toList a n
  rcases h1 with rfl | rfl | rfl | rfl
  · have e : (256 : Nat) ^ (1 : Int).toNat = 256 := by decide
    omega
  · have e : (256 : Nat) ^ (2 : Int).toNat = 65536 := by decide
    omega
  · have e : (256 : Nat) ^ (4 : Int).toNat = 4294967296 := by decide
    omega
  · exact absurd rfl hn

theorem getIV_small {s : ByteArray} {a : Int} (n : Nat) : 0 ≤ getIV s a n ∧ (getIV s a n).toNat < 256 ^ n := by
  unfold getIV
  split
  · refine ⟨by omega, ?_⟩
    have := getL_lt s.data.toList a n
    simpa using this
  · exact ⟨by omega, Nat.pow_pos (by decide)⟩

end Go.Proofs.Ytfgnemddamebaaa
