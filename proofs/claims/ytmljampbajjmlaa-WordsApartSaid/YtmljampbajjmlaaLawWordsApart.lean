/- For every input the law glissadelaw01.WordsApart returns true. -/
import Derived.Test.YtmljampbajjmlaaWordsAlive
import Derived.Test.YtmljampbajjmlaaFrame
import Derived.Test.YtmljampbajjmlaaAid
set_option linter.unusedVariables false
set_option linter.unusedSimpArgs false
namespace Go.Proofs.Ytmljampbajjmlaa
open Go.RowKit Go.Joins

theorem putV_size {s : ByteArray} {a n v : Int} (h : putOk s a n v = true) : (putV s a n v).size = s.size := by
  have hf : fits (bts s).length a n = true := by rw [bts_length]; simp only [putOk, Bool.and_eq_true] at h; exact h.1
  rw [putV, if_pos h, ← bts_length]
  exact (putL_length hf).trans (bts_length s)

theorem putV_comm {s : ByteArray} {a n v b m u : Int} (h : putOk s a n v = true) (k : putOk s b m u = true) (hd : a + n ≤ b ∨ b + m ≤ a) :
    putOk (putV s a n v) b m u = true ∧ putOk (putV s b m u) a n v = true ∧ putV (putV s a n v) b m u = putV (putV s b m u) a n v := by
  have h1 : putOk (putV s a n v) b m u = true := by rw [putOk, putV_size h]; exact k
  have h2 : putOk (putV s b m u) a n v = true := by rw [putOk, putV_size k]; exact h
  refine ⟨h1, h2, ?_⟩
  have hf : fits (bts s).length a n = true := by rw [bts_length]; simp only [putOk, Bool.and_eq_true] at h; exact h.1
  have kf : fits (bts s).length b m = true := by rw [bts_length]; simp only [putOk, Bool.and_eq_true] at k; exact k.1
  rw [putV, if_pos h1, putV, if_pos h, putV, if_pos h2, putV, if_pos k]
  congr 2
  exact putL_comm hf kf hd

set_option maxHeartbeats 1000000 in
theorem apart_no1 (w : World) (s : ByteArray) (HS : s.size ≤ maxLen) (a n b m v u : Int) (h0 : 0 ≤ v) (h1 : v ≤ 18446744073709551615) (k0 : 0 ≤ u) (k1 : u ≤ 18446744073709551615) (hf : putOk s a n v = false) :
    Calls Try.prog 7 #[.string s, .agg #[.int .i64 a, .int .i64 n, .int .i64 b, .int .i64 m], .agg #[.int .u64 v, .int .u64 u]] w fun e w' => e = .returned (.bool true) ∧ Below w.heap.size w w' := by
  have HC1 := Lib.hid (fun W => put_no s a n v W HS hf h0 h1 : ∀ W, Calls Try.prog 15 #[.string s, .int .i64 a, .int .i64 n, .int .u64 v] W fun e w' => e = .returned (.tuple #[.string ⟨#[]⟩, .bool false]) ∧ Below W.heap.size W w')
  have HC2 := Lib.hid (fun W => put_any s b m u W HS k0 k1 : ∀ W, Calls Try.prog 15 #[.string s, .int .i64 b, .int .i64 m, .int .u64 u] W fun e w' => e = .returned (.tuple #[.string (putV s b m u), .bool (putOk s b m u)]) ∧ Below W.heap.size W w')
  clear hf
  go_enter Try.func7, Try.ntmps7
  have B0 : Below w.heap.size w ((w.alloc (.cells #[.int .i64 a, .int .i64 n, .int .i64 b, .int .i64 m] 34)).alloc (.cells #[.int .u64 v, .int .u64 u] 35)) := ((Below.refl _ _).alloc (Nat.le_refl _) _).alloc (by simp) _
  go_wp2_with fail
  refine (HC1.out _).mono ?_
  rintro e w1 ⟨rfl, hb1⟩
  have B1 := below_chain B0 hb1 B0.size
  have c2 := new_cell_a hb1 2 rfl
  have c3 := new_cell_a hb1 3 rfl
  have d1 := new_cell_b hb1 1 rfl
  go_wp2_with fail
  refine (HC2.out _).mono ?_
  rintro e w2 ⟨rfl, hb2⟩
  have B2 := below_chain B1 hb2 B1.size
  go_wp2_with fail
  refine (alive01 _).mono ?_
  rintro e w3 ⟨rfl, hb3⟩
  go_wp2_with fail
  go_ret
  exact ⟨rfl, below_chain B2 hb3 B2.size⟩

set_option maxHeartbeats 1000000 in
theorem apart_no2 (w : World) (s : ByteArray) (HS : s.size ≤ maxLen) (a n b m v u : Int) (h0 : 0 ≤ v) (h1 : v ≤ 18446744073709551615) (k0 : 0 ≤ u) (k1 : u ≤ 18446744073709551615) (hf : putOk s a n v = true) (kf : putOk s b m u = false) :
    Calls Try.prog 7 #[.string s, .agg #[.int .i64 a, .int .i64 n, .int .i64 b, .int .i64 m], .agg #[.int .u64 v, .int .u64 u]] w fun e w' => e = .returned (.bool true) ∧ Below w.heap.size w w' := by
  obtain ⟨X, hX⟩ : ∃ X, X = putV s a n v := ⟨_, rfl⟩
  have HC1 := Lib.hid (fun W => by have := put_any s a n v W HS h0 h1; rw [hf, ← hX] at this; exact this : ∀ W, Calls Try.prog 15 #[.string s, .int .i64 a, .int .i64 n, .int .u64 v] W fun e w' => e = .returned (.tuple #[.string X, .bool true]) ∧ Below W.heap.size W w')
  have HC2 := Lib.hid (fun W => put_no s b m u W HS kf k0 k1 : ∀ W, Calls Try.prog 15 #[.string s, .int .i64 b, .int .i64 m, .int .u64 u] W fun e w' => e = .returned (.tuple #[.string ⟨#[]⟩, .bool false]) ∧ Below W.heap.size W w')
  clear hf kf hX
  go_enter Try.func7, Try.ntmps7
  have B0 : Below w.heap.size w ((w.alloc (.cells #[.int .i64 a, .int .i64 n, .int .i64 b, .int .i64 m] 34)).alloc (.cells #[.int .u64 v, .int .u64 u] 35)) := ((Below.refl _ _).alloc (Nat.le_refl _) _).alloc (by simp) _
  go_wp2_with fail
  refine (HC1.out _).mono ?_
  rintro e w1 ⟨rfl, hb1⟩
  have B1 := below_chain B0 hb1 B0.size
  have c2 := new_cell_a hb1 2 rfl
  have c3 := new_cell_a hb1 3 rfl
  have d1 := new_cell_b hb1 1 rfl
  go_wp2_with fail
  refine (HC2.out _).mono ?_
  rintro e w2 ⟨rfl, hb2⟩
  have B2 := below_chain B1 hb2 B1.size
  go_wp2_with fail
  refine (alive01 _).mono ?_
  rintro e w3 ⟨rfl, hb3⟩
  go_wp2_with fail
  go_ret
  exact ⟨rfl, below_chain B2 hb3 B2.size⟩

set_option maxHeartbeats 1000000 in
theorem apart_meet (w : World) (s : ByteArray) (HS : s.size ≤ maxLen) (a n b m v u : Int) (h0 : 0 ≤ v) (h1 : v ≤ 18446744073709551615) (k0 : 0 ≤ u) (k1 : u ≤ 18446744073709551615) (hf : putOk s a n v = true) (kf : putOk s b m u = true) (hm1 : a < b + m) (hm2 : b < a + n) :
    Calls Try.prog 7 #[.string s, .agg #[.int .i64 a, .int .i64 n, .int .i64 b, .int .i64 m], .agg #[.int .u64 v, .int .u64 u]] w fun e w' => e = .returned (.bool true) ∧ Below w.heap.size w w' := by
  obtain ⟨hf1, hf2⟩ : fits s.size a n = true ∧ v.toNat < 256 ^ n.toNat := by simpa [putOk] using hf
  obtain ⟨hn, r1, r2⟩ := fits_iff.1 hf1
  obtain ⟨kf1, kf2⟩ : fits s.size b m = true ∧ u.toNat < 256 ^ m.toNat := by simpa [putOk] using kf
  obtain ⟨km, q1, q2⟩ := fits_iff.1 kf1
  have n1 : 1 ≤ n ∧ n ≤ 8 := by omega
  have m1 : 1 ≤ m ∧ m ≤ 8 := by omega
  obtain ⟨n1, n8⟩ := n1
  obtain ⟨m1, m8⟩ := m1
  have HS' := HS
  unfold maxLen at HS'
  obtain ⟨X, hX⟩ : ∃ X, X = putV s a n v := ⟨_, rfl⟩
  obtain ⟨Y, hY⟩ : ∃ Y, Y = putV s b m u := ⟨_, rfl⟩
  have HC1 := Lib.hid (fun W => by have := put_any s a n v W HS h0 h1; rw [hf, ← hX] at this; exact this : ∀ W, Calls Try.prog 15 #[.string s, .int .i64 a, .int .i64 n, .int .u64 v] W fun e w' => e = .returned (.tuple #[.string X, .bool true]) ∧ Below W.heap.size W w')
  have HC2 := Lib.hid (fun W => by have := put_any s b m u W HS k0 k1; rw [kf, ← hY] at this; exact this : ∀ W, Calls Try.prog 15 #[.string s, .int .i64 b, .int .i64 m, .int .u64 u] W fun e w' => e = .returned (.tuple #[.string Y, .bool true]) ∧ Below W.heap.size W w')
  clear hf kf hX hY hf1 hf2 kf1 kf2 hn km
  go_enter Try.func7, Try.ntmps7
  have B0 : Below w.heap.size w ((w.alloc (.cells #[.int .i64 a, .int .i64 n, .int .i64 b, .int .i64 m] 34)).alloc (.cells #[.int .u64 v, .int .u64 u] 35)) := ((Below.refl _ _).alloc (Nat.le_refl _) _).alloc (by simp) _
  go_wp2_with fail
  refine (HC1.out _).mono ?_
  rintro e w1 ⟨rfl, hb1⟩
  have B1 := below_chain B0 hb1 B0.size
  have c2 := new_cell_a hb1 2 rfl
  have c3 := new_cell_a hb1 3 rfl
  have d1 := new_cell_b hb1 1 rfl
  go_wp2_with fail
  refine (HC2.out _).mono ?_
  rintro e w2 ⟨rfl, hb2⟩
  have B2 := below_chain B1 hb2 B1.size
  have s1 : w.heap.size + 1 < w1.heap.size := by have := hb1.size; simp at this; omega
  have e0 : w2.cell? ⟨w.heap.size, 0, none⟩ = some (.int .i64 a) := by rw [hb2.cell (p := ⟨w.heap.size, 0, none⟩) (by simp; omega)]; exact new_cell_a hb1 0 rfl
  have e1 : w2.cell? ⟨w.heap.size, 1, none⟩ = some (.int .i64 n) := by rw [hb2.cell (p := ⟨w.heap.size, 1, none⟩) (by simp; omega)]; exact new_cell_a hb1 1 rfl
  have e2 : w2.cell? ⟨w.heap.size, 2, none⟩ = some (.int .i64 b) := by rw [hb2.cell (p := ⟨w.heap.size, 2, none⟩) (by simp; omega)]; exact c2
  have e3 : w2.cell? ⟨w.heap.size, 3, none⟩ = some (.int .i64 m) := by rw [hb2.cell (p := ⟨w.heap.size, 3, none⟩) (by simp; omega)]; exact c3
  go_wp2_with fail
  refine (alive01 _).mono ?_
  rintro e w3 ⟨rfl, hb3⟩
  go_wp2_with fail
  go_ret
  exact ⟨rfl, below_chain B2 hb3 B2.size⟩

set_option maxHeartbeats 1000000 in
theorem apart_clear (w : World) (s : ByteArray) (HS : s.size ≤ maxLen) (a n b m v u : Int) (h0 : 0 ≤ v) (h1 : v ≤ 18446744073709551615) (k0 : 0 ≤ u) (k1 : u ≤ 18446744073709551615) (hf : putOk s a n v = true) (kf : putOk s b m u = true) (hd : a + n ≤ b ∨ b + m ≤ a) :
    Calls Try.prog 7 #[.string s, .agg #[.int .i64 a, .int .i64 n, .int .i64 b, .int .i64 m], .agg #[.int .u64 v, .int .u64 u]] w fun e w' => e = .returned (.bool true) ∧ Below w.heap.size w w' := by
  obtain ⟨hf1, hf2⟩ : fits s.size a n = true ∧ v.toNat < 256 ^ n.toNat := by simpa [putOk] using hf
  obtain ⟨hn, r1, r2⟩ := fits_iff.1 hf1
  obtain ⟨kf1, kf2⟩ : fits s.size b m = true ∧ u.toNat < 256 ^ m.toNat := by simpa [putOk] using kf
  obtain ⟨km, q1, q2⟩ := fits_iff.1 kf1
  have n1 : 1 ≤ n ∧ n ≤ 8 := by omega
  have m1 : 1 ≤ m ∧ m ≤ 8 := by omega
  obtain ⟨n1, n8⟩ := n1
  obtain ⟨m1, m8⟩ := m1
  have HS' := HS
  unfold maxLen at HS'
  obtain ⟨p1, p2, p3⟩ := putV_comm hf kf hd
  have hXs := putV_size hf
  have hYs := putV_size kf
  obtain ⟨X, hX⟩ : ∃ X, X = putV s a n v := ⟨_, rfl⟩
  obtain ⟨Y, hY⟩ : ∃ Y, Y = putV s b m u := ⟨_, rfl⟩
  rw [← hX] at p1 p3 hXs
  rw [← hY] at p2 p3 hYs
  obtain ⟨Z, hZ⟩ : ∃ Z, Z = putV X b m u := ⟨_, rfl⟩
  have HC1 := Lib.hid (fun W => by have := put_any s a n v W HS h0 h1; rw [hf, ← hX] at this; exact this : ∀ W, Calls Try.prog 15 #[.string s, .int .i64 a, .int .i64 n, .int .u64 v] W fun e w' => e = .returned (.tuple #[.string X, .bool true]) ∧ Below W.heap.size W w')
  have HC2 := Lib.hid (fun W => by have := put_any s b m u W HS k0 k1; rw [kf, ← hY] at this; exact this : ∀ W, Calls Try.prog 15 #[.string s, .int .i64 b, .int .i64 m, .int .u64 u] W fun e w' => e = .returned (.tuple #[.string Y, .bool true]) ∧ Below W.heap.size W w')
  have HC3 := Lib.hid (fun W => by have := put_any X b m u W (by rw [hXs]; exact HS) k0 k1; rw [p1, ← hZ] at this; exact this : ∀ W, Calls Try.prog 15 #[.string X, .int .i64 b, .int .i64 m, .int .u64 u] W fun e w' => e = .returned (.tuple #[.string Z, .bool true]) ∧ Below W.heap.size W w')
  have HC4 := Lib.hid (fun W => by have := put_any Y a n v W (by rw [hYs]; exact HS) h0 h1; rw [p2, ← p3, ← hZ] at this; exact this : ∀ W, Calls Try.prog 15 #[.string Y, .int .i64 a, .int .i64 n, .int .u64 v] W fun e w' => e = .returned (.tuple #[.string Z, .bool true]) ∧ Below W.heap.size W w')
  clear hf kf hX hY hf1 hf2 kf1 kf2 hn km p1 p2 p3 hXs hYs hZ
  go_enter Try.func7, Try.ntmps7
  have B0 : Below w.heap.size w ((w.alloc (.cells #[.int .i64 a, .int .i64 n, .int .i64 b, .int .i64 m] 34)).alloc (.cells #[.int .u64 v, .int .u64 u] 35)) := ((Below.refl _ _).alloc (Nat.le_refl _) _).alloc (by simp) _
  go_wp2_with fail
  refine (HC1.out _).mono ?_
  rintro e w1 ⟨rfl, hb1⟩
  have B1 := below_chain B0 hb1 B0.size
  have c2 := new_cell_a hb1 2 rfl
  have c3 := new_cell_a hb1 3 rfl
  have d1 := new_cell_b hb1 1 rfl
  go_wp2_with fail
  refine (HC2.out _).mono ?_
  rintro e w2 ⟨rfl, hb2⟩
  have B2 := below_chain B1 hb2 B1.size
  have s1 : w.heap.size + 1 < w1.heap.size := by have := hb1.size; simp at this; omega
  have e0 : w2.cell? ⟨w.heap.size, 0, none⟩ = some (.int .i64 a) := by rw [hb2.cell (p := ⟨w.heap.size, 0, none⟩) (by simp; omega)]; exact new_cell_a hb1 0 rfl
  have e1 : w2.cell? ⟨w.heap.size, 1, none⟩ = some (.int .i64 n) := by rw [hb2.cell (p := ⟨w.heap.size, 1, none⟩) (by simp; omega)]; exact new_cell_a hb1 1 rfl
  have e2 : w2.cell? ⟨w.heap.size, 2, none⟩ = some (.int .i64 b) := by rw [hb2.cell (p := ⟨w.heap.size, 2, none⟩) (by simp; omega)]; exact c2
  have e3 : w2.cell? ⟨w.heap.size, 3, none⟩ = some (.int .i64 m) := by rw [hb2.cell (p := ⟨w.heap.size, 3, none⟩) (by simp; omega)]; exact c3
  have d0 : w2.cell? ⟨w.heap.size + 1, 0, none⟩ = some (.int .u64 v) := by rw [hb2.cell (p := ⟨w.heap.size + 1, 0, none⟩) (by simp; omega)]; exact new_cell_b hb1 0 rfl
  have d2 : w2.cell? ⟨w.heap.size + 1, 1, none⟩ = some (.int .u64 u) := by rw [hb2.cell (p := ⟨w.heap.size + 1, 1, none⟩) (by simp; omega)]; exact d1
  have s2 : w.heap.size + 1 < w2.heap.size := by have := hb2.size; omega
  by_cases hda : a < b + m
  · have hdb : ¬ b < a + n := by omega
    clear hd
    go_wp2_with fail
    refine (HC3.out _).mono ?_
    rintro e w3 ⟨rfl, hb3⟩
    have B3 := below_chain B2 hb3 B2.size
    have f0 : w3.cell? ⟨w.heap.size, 0, none⟩ = some (.int .i64 a) := by rw [hb3.cell (p := ⟨w.heap.size, 0, none⟩) (by simp; omega)]; exact e0
    have f1 : w3.cell? ⟨w.heap.size, 1, none⟩ = some (.int .i64 n) := by rw [hb3.cell (p := ⟨w.heap.size, 1, none⟩) (by simp; omega)]; exact e1
    have f2 : w3.cell? ⟨w.heap.size + 1, 0, none⟩ = some (.int .u64 v) := by rw [hb3.cell (p := ⟨w.heap.size + 1, 0, none⟩) (by simp; omega)]; exact d0
    go_wp2_with fail
    refine (HC4.out _).mono ?_
    rintro e w4 ⟨rfl, hb4⟩
    have B4 := below_chain B3 hb4 B3.size
    go_wp2_with fail
    refine (alive01 _).mono ?_
    rintro e w5 ⟨rfl, hb5⟩
    go_wp2_with fail
    go_ret
    exact ⟨rfl, below_chain B4 hb5 B4.size⟩
  · clear hd
    go_wp2_with fail
    refine (HC3.out _).mono ?_
    rintro e w3 ⟨rfl, hb3⟩
    have B3 := below_chain B2 hb3 B2.size
    have f0 : w3.cell? ⟨w.heap.size, 0, none⟩ = some (.int .i64 a) := by rw [hb3.cell (p := ⟨w.heap.size, 0, none⟩) (by simp; omega)]; exact e0
    have f1 : w3.cell? ⟨w.heap.size, 1, none⟩ = some (.int .i64 n) := by rw [hb3.cell (p := ⟨w.heap.size, 1, none⟩) (by simp; omega)]; exact e1
    have f2 : w3.cell? ⟨w.heap.size + 1, 0, none⟩ = some (.int .u64 v) := by rw [hb3.cell (p := ⟨w.heap.size + 1, 0, none⟩) (by simp; omega)]; exact d0
    go_wp2_with fail
    refine (HC4.out _).mono ?_
    rintro e w4 ⟨rfl, hb4⟩
    have B4 := below_chain B3 hb4 B3.size
    go_wp2_with fail
    refine (alive01 _).mono ?_
    rintro e w5 ⟨rfl, hb5⟩
    go_wp2_with fail
    go_ret
    exact ⟨rfl, below_chain B4 hb5 B4.size⟩

theorem walk_wordsApart (w : World) (s : ByteArray) (hs : s.size ≤ 140737488351232) (a n b m : Int) (hz : ∀ z ∈ [a, n, b, m], -9223372036854775808 ≤ z ∧ z ≤ 9223372036854775807) (v u : Int) (hy : ∀ z ∈ [v, u], 0 ≤ z ∧ z ≤ 18446744073709551615) :
    Calls Try.prog 7 #[.string s, .agg #[.int .i64 a, .int .i64 n, .int .i64 b, .int .i64 m], .agg #[.int .u64 v, .int .u64 u]] w fun e w' => e = .returned (.bool true) ∧ Below w.heap.size w w' := by
  have HS := size_le_maxLen hs
  obtain ⟨v0, v1⟩ := hy v (by simp)
  obtain ⟨u0, u1⟩ := hy u (by simp)
  by_cases hf : putOk s a n v = true
  · by_cases kf : putOk s b m u = true
    · by_cases hm : a < b + m ∧ b < a + n
      · exact apart_meet w s HS a n b m v u v0 v1 u0 u1 hf kf hm.1 hm.2
      · exact apart_clear w s HS a n b m v u v0 v1 u0 u1 hf kf (by omega)
    · exact apart_no2 w s HS a n b m v u v0 v1 u0 u1 hf (by simpa using kf)
  · exact apart_no1 w s HS a n b m v u v0 v1 u0 u1 (by simpa using hf)

/-! ### the frame (printed by mklaw.py) -/

set_option maxRecDepth 100000 in
theorem lifted_wordsApart (os : Os) (started : os.Started) (H : Type) (enc : TypeId × Value → H) :
    ReturnsInHanded {} Try.checked os 7 .any (Rows.wordsApartSpec.pre6 enc Try.prog Try.f7 Rows.wordsApartRow.domain false) (Rows.wordsApartSpec.post enc Try.prog Try.f7 false true false false) := by
  refine law_step (C := Try.checked) (tb := 4) (by kernel_rfl) (by kernel_rfl) started (by kernel_rfl) Try.func7 rfl Try.underlying4 rfl ?_ ?_
    (ChangeSpec.witness6 (enc := enc) (C := Try.checked) false ⟨#[], #[.string ByteArray.empty, .agg #[.int .i64 0, .int .i64 0, .int .i64 0, .int .i64 0], .agg #[.int .u64 0, .int .u64 0]], []⟩ 8 (by kernel_rfl) (by kernel_rfl) (by kernel_rfl) (by kernel_rfl)) ?_
  · intro ds hl
    match ds, hl with
    | [d0, d1, d2], _ => rfl
  · intro t ht
    rw [show Try.f7.params.toList = [9, 34, 35] from by rw [Try.params7]] at ht
    simp only [List.mem_cons, List.not_mem_nil, or_false] at ht
    rcases ht with rfl | rfl | rfl
    · exact ⟨by kernel_rfl, of_decide_eq_true (by kernel_rfl)⟩
    · exact ⟨by kernel_rfl, of_decide_eq_true (by kernel_rfl)⟩
    · exact ⟨by kernel_rfl, of_decide_eq_true (by kernel_rfl)⟩
  · intro W args hG
    rw [show Try.f7.params.toList = [9, 34, 35] from by rw [Try.params7]] at hG
    obtain ⟨v0, v1, v2, rfl, g0, g1, g2⟩ := gotAll_args3 hG
    obtain ⟨a0, rfl, b0⟩ := got_string Try.underlying9 g0
    obtain ⟨zs1, rfl, zl1, zh1⟩ := got_flat (k := .i64) (n := 4) (by kernel_rfl) g1
    obtain ⟨z1_0, z1_1, z1_2, z1_3, rfl⟩ : ∃ z1_0 z1_1 z1_2 z1_3, zs1 = [z1_0, z1_1, z1_2, z1_3] := by
      match zs1, zl1 with
      | [z1_0, z1_1, z1_2, z1_3], _ => exact ⟨z1_0, z1_1, z1_2, z1_3, rfl⟩
    obtain ⟨zs2, rfl, zl2, zh2⟩ := got_flat (k := .u64) (n := 2) (by kernel_rfl) g2
    obtain ⟨z2_0, z2_1, rfl⟩ : ∃ z2_0 z2_1, zs2 = [z2_0, z2_1] := by
      match zs2, zl2 with
      | [z2_0, z2_1], _ => exact ⟨z2_0, z2_1, rfl⟩
    exact walk_wordsApart W a0 b0 z1_0 z1_1 z1_2 z1_3 (fun z hz => has_i64 (zh1 z hz)) z2_0 z2_1 (fun z hz => has_u64 (zh2 z hz))

theorem wordsApart_over : Rows.wordsApartRow.holds Try.pinned (OpenSpec.ofChange Rows.wordsApartSpec) :=
  OpenClaim.holds_of_wide 7 Try.f7 rfl rfl rfl rfl rfl rfl rfl ⟨rfl, rfl, rfl, rfl, rfl⟩ rfl rfl rfl rfl rfl (by kernel_rfl) Try.func7 (by kernel_rfl)
    (of_decide_eq_true (by kernel_rfl)) (by unfold Func.isWrapper; first | (rw [if_pos (by decide +kernel)]; kernel_rfl) | (rw [if_neg (by decide +kernel)]; exact ⟨rfl, rfl⟩))
    (fun os started H enc _ => lifted_wordsApart os started H enc)

theorem wordsApart_holds : Rows.WordsApartSaid := wordsApart_over
#print axioms wordsApart_holds

end Go.Proofs.Ytmljampbajjmlaa
