/- Plain facts of the superblocks' blocks: the pieces of a block, and when two are the same. -/
import Derived.Test.YtdinekhpfimohaaSupersAlive
set_option linter.unusedVariables false
set_option linter.unusedSimpArgs false
set_option maxRecDepth 100000
namespace Go.Proofs.Ytdinekhpfimohaa
open Go.RowKit Go.Joins

theorem same_bytes (a b : ByteArray) (p : Prop) [Decidable p] (h : a = b ↔ p) : (a.toList == b.toList) = decide p := by
  rw [← beq_toListBytes, show (a == b) = (a.data == b.data) by cases a; cases b; rfl, Bool.eq_iff_iff, beq_iff_eq, decide_eq_true_eq, ← h]
  exact ⟨ByteArray.ext, congrArg _⟩

theorem word4_inj {x y : Int} (hx : 0 ≤ x ∧ x < 4294967296) (hy : 0 ≤ y ∧ y < 4294967296) : word4 x = word4 y ↔ x = y := by
  constructor
  · intro h
    have h1 : leBytes 4 x.toNat = leBytes 4 y.toNat := by simpa [word4] using h
    have h2 := congrArg leVal h1
    rw [leVal_leBytes _ _ (by have : (256 : Nat) ^ 4 = 4294967296 := by decide
                              omega), leVal_leBytes _ _ (by have : (256 : Nat) ^ 4 = 4294967296 := by decide
                                                            omega)] at h2
    omega
  · rintro rfl; rfl

theorem enc_data (xs : List Int) : (encV xs).data.toList = magicS ++ words4 xs ++ List.replicate 80 0 := by simp [encV, encS]

theorem encV_field (xs : List Int) (h : xs.length = 10) (k : Nat) (hk : k < 10) : (encV xs).extract (8 + 4 * k) (12 + 4 * k) = word4 (xs[k]'(by omega)) := by
  apply ByteArray.ext
  apply Array.toList_inj.1
  simp only [ByteArray.data_extract, Array.toList_extract, enc_data, word4]
  have e : xs = xs.take k ++ (xs[k]'(by omega)) :: xs.drop (k + 1) := by
    rw [← List.drop_eq_getElem_cons (by omega), List.take_append_drop]
  have ew := congrArg words4 e
  rw [words4_append, words4] at ew
  have e2 : (magicS ++ words4 (xs.take k)).length = 8 + 4 * k := by simp [words4_length, magicS]; omega
  rw [List.extract_eq_take_drop, enc_data]
  rw [show magicS ++ words4 xs ++ List.replicate 80 0 = (magicS ++ words4 (xs.take k)) ++ (leBytes 4 (xs[k]'(by omega)).toNat ++ (words4 (xs.drop (k + 1)) ++ List.replicate 80 0)) by rw [ew]; simp only [List.append_assoc]]
  rw [← e2, List.drop_left, List.take_append_of_le_length (by rw [leBytes_length]; omega), List.take_of_length_le (by rw [leBytes_length]; omega)]

theorem encV_head (xs : List Int) : (encV xs).extract 0 8 = ⟨magicS.toArray⟩ := by
  apply ByteArray.ext
  apply Array.toList_inj.1
  simp only [ByteArray.data_extract, Array.toList_extract, enc_data, List.extract_eq_take_drop, List.drop_zero]
  rw [List.append_assoc, List.take_append_of_le_length (by simp [magicS])]
  rfl

theorem encV_tail (xs : List Int) (h : xs.length = 10) : (encV xs).extract 48 128 = zerosB 80 := by
  apply ByteArray.ext
  apply Array.toList_inj.1
  simp only [ByteArray.data_extract, Array.toList_extract, enc_data, List.extract_eq_take_drop, zerosB]
  have e2 : (magicS ++ words4 xs).length = 48 := by simp [words4_length, magicS, h]
  rw [← e2, List.drop_left, e2]
  simp

/-- two blocks are the same just if their fields are -/
theorem encV_inj (xs ys : List Int) (hx : xs.length = 10) (hy : ys.length = 10) (bx : ∀ x ∈ xs, 0 ≤ x ∧ x ≤ 4096) (by' : ∀ x ∈ ys, 0 ≤ x ∧ x ≤ 4096) : encV xs = encV ys ↔ xs = ys := by
  constructor
  · intro h
    apply List.ext_getElem (by omega)
    intro k h1 h2
    have e1 := encV_field xs hx k (by omega)
    rw [h, encV_field ys hy k (by omega)] at e1
    have a1 := bx _ (List.getElem_mem h1)
    have a2 := by' _ (List.getElem_mem h2)
    exact ((word4_inj (by omega) (by omega)).1 e1).symm
  · rintro rfl; rfl

/-- the same piece of two blocks -/
theorem field_same (xs ys : List Int) (hx : xs.length = 10) (hy : ys.length = 10) (bx : ∀ x ∈ xs, 0 ≤ x ∧ x ≤ 4096) (by' : ∀ x ∈ ys, 0 ≤ x ∧ x ≤ 4096) (k : Nat) (hk : k < 10) :
    (((encV xs).extract (8 + 4 * k) (12 + 4 * k)).toList == ((encV ys).extract (8 + 4 * k) (12 + 4 * k)).toList) = ((xs[k]'(by omega)) == (ys[k]'(by omega))) := by
  have a1 := bx _ (List.getElem_mem (by omega : k < xs.length))
  have a2 := by' _ (List.getElem_mem (by omega : k < ys.length))
  rw [encV_field xs hx k hk, encV_field ys hy k hk, same_bytes _ _ _ (word4_inj (by omega) (by omega))]
  rfl

theorem head_same (xs ys : List Int) : (((encV xs).extract 0 8).toList == ((encV ys).extract 0 8).toList) = true := by
  rw [encV_head, encV_head]; simp

theorem tail_same (xs ys : List Int) (hx : xs.length = 10) (hy : ys.length = 10) : (((encV xs).extract 48 128).toList == ((encV ys).extract 48 128).toList) = true := by
  rw [encV_tail xs hx, encV_tail ys hy]; simp

end Go.Proofs.Ytdinekhpfimohaa
