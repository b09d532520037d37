/- Superblocks, in plain numbers and bytes. -/
import Derived.Test.YtfgnemddamebaaaPlainWords
import Derived.Test.YtfgnemddamebaaaPlainGeo
set_option linter.unusedVariables false
namespace Go.Proofs.Ytfgnemddamebaaa

/-- may what slides be? -/
def slidesB (b m i g f t n v : Int) : Bool :=
  decide (2 ≤ n) && decide (n ≤ b) && decide (1 ≤ v) && decide (v < n) && decide (0 ≤ i) && decide (i < m) && decide (0 ≤ g) && decide (g ≤ 2048 - n) && decide (0 ≤ f) && decide (f ≤ b - n) && decide (0 ≤ t) && decide (t ≤ b - n)

/-- does nothing slide? -/
def stillB (i g f t n v : Int) : Bool := decide (i = 0) && decide (g = 0) && decide (f = 0) && decide (t = 0) && decide (n = 0) && decide (v = 0)

/-- may a superblock be? -/
def superOk (b l m c i g f t n v : Int) : Bool :=
  geoOk b l m && decide (0 ≤ c) && decide (c ≤ b) && (stillB i g f t n v || slidesB b m i g f t n v)

theorem slidesB_iff {b m i g f t n v : Int} : slidesB b m i g f t n v = true ↔ 2 ≤ n ∧ n ≤ b ∧ 1 ≤ v ∧ v < n ∧ 0 ≤ i ∧ i < m ∧ 0 ≤ g ∧ g ≤ 2048 - n ∧ 0 ≤ f ∧ f ≤ b - n ∧ 0 ≤ t ∧ t ≤ b - n := by
  simp [slidesB, and_assoc]
theorem stillB_iff {i g f t n v : Int} : stillB i g f t n v = true ↔ i = 0 ∧ g = 0 ∧ f = 0 ∧ t = 0 ∧ n = 0 ∧ v = 0 := by
  simp [stillB, and_assoc]
theorem superOk_iff {b l m c i g f t n v : Int} : superOk b l m c i g f t n v = true ↔ geoOk b l m = true ∧ 0 ≤ c ∧ c ≤ b ∧ (stillB i g f t n v = true ∨ slidesB b m i g f t n v = true) := by
  simp [superOk, and_assoc]

/-- the numbers of a superblock that may be are small -/
theorem superOk_small {b l m c i g f t n v : Int} (h : superOk b l m c i g f t n v = true) :
    ∀ x ∈ [b, l, m, c, i, g, f, t, n, v], 0 ≤ x ∧ x ≤ 4096 := by
  obtain ⟨h1, h2, h3, h4⟩ := superOk_iff.1 h
  obtain ⟨g1, g2, g3, g4, g5, g6, g7, g8⟩ := geoOk_iff.1 h1
  rw [stillB_iff, slidesB_iff] at h4
  intro x hx
  simp only [List.mem_cons, List.not_mem_nil, or_false] at hx
  rcases hx with rfl | rfl | rfl | rfl | rfl | rfl | rfl | rfl | rfl | rfl <;> omega

/-- numbers of four bytes, one behind the other -/
def words4 : List Int → List UInt8
  | [] => []
  | x :: r => leBytes 4 x.toNat ++ words4 r

theorem words4_length (l : List Int) : (words4 l).length = 4 * l.length := by
  induction l with
  | nil => rfl
  | cons x r ih => simp [words4, leBytes_length, ih]; omega

theorem words4_append (l r : List Int) : words4 (l ++ r) = words4 l ++ words4 r := by
  induction l with
  | nil => rfl
  | cons x t ih => simp [words4, ih]

/-- a number put at the end of what is known, over zeros -/
theorem putL_zeros (A : List UInt8) (z n : Nat) (v : Nat) : putL (A ++ List.replicate (n + z) 0) (A.length : Nat) (n : Nat) v = A ++ leBytes n v ++ List.replicate z 0 := by
  simp only [putL, Int.toNat_natCast]
  rw [List.take_append_of_le_length (Nat.le_refl _), List.take_length]
  congr 1
  rw [← List.drop_drop, List.drop_left, List.drop_replicate]
  congr 1; omega

/-- what stands at a field -/
theorem getL_words (A : List UInt8) (l : List Int) (k : Nat) (hk : k < l.length) (h0 : 0 ≤ l[k]) (h1 : l[k] < 4294967296) (R : List UInt8) :
    getL (A ++ words4 l ++ R) ((A.length + 4 * k : Nat) : Int) 4 = l[k].toNat := by
  have e : l = l.take k ++ l[k] :: l.drop (k + 1) := by
    rw [← List.drop_eq_getElem_cons hk, List.take_append_drop]
  have e2 : (A ++ words4 (l.take k)).length = A.length + 4 * k := by
    simp [words4_length]; omega
  have ew := congrArg words4 e
  rw [words4_append, words4] at ew
  have e3 : A ++ words4 l ++ R = (A ++ words4 (l.take k)) ++ (leBytes 4 l[k].toNat ++ (words4 (l.drop (k + 1)) ++ R)) := by
    rw [ew]
    simp only [List.append_assoc]
  simp only [getL, Int.toNat_natCast]
  rw [e3, ← e2, List.drop_left]
  rw [show (4 : Int).toNat = 4 from rfl, List.take_append_of_le_length (by rw [leBytes_length]; omega), List.take_of_length_le (by rw [leBytes_length]; omega)]
  exact leVal_leBytes _ _ (by have : (256 : Nat) ^ 4 = 4294967296 := by decide
                              omega)

/-- glissade -/
def magicS : List UInt8 := [103, 108, 105, 115, 115, 97, 100, 101]

/-- a superblock's block -/
def encS (l : List Int) : List UInt8 := magicS ++ words4 l ++ List.replicate 80 0

theorem encS_length (l : List Int) (h : l.length = 10) : (encS l).length = 128 := by
  simp [encS, words4_length, h, magicS]

end Go.Proofs.Ytfgnemddamebaaa
