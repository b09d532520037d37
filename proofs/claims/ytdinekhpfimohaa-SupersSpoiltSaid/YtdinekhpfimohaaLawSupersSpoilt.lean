/- For every input the law glissadelaw10.SupersSpoilt returns true. -/
import Derived.Laws.BitsAllLaws
import Derived.Test.YtdinekhpfimohaaSupersFacts
import Derived.Test.YtdinekhpfimohaaFrame
set_option linter.unusedVariables false
set_option linter.unusedSimpArgs false
set_option maxRecDepth 100000
namespace Go.Proofs.Ytdinekhpfimohaa
open Go.RowKit Go.Joins

theorem spoil_byte (x : UInt8) (y : Int) (h0 : 0 ≤ y) (h1 : y ≤ 255) : ∃ z : UInt8, bits .xor .u8 (x.toNat : Int) y = (z.toNat : Int) ∧ (z = x ↔ y = 0) := by
  have hx : x.toNat < 256 := UInt8.toNat_lt x
  have hl : x.toNat ^^^ y.toNat < 2 ^ 8 := Nat.xor_lt_two_pow (by omega) (by omega)
  have hz : (UInt8.ofNat (x.toNat ^^^ y.toNat)).toNat = x.toNat ^^^ y.toNat := by
    rw [UInt8.toNat_ofNat']; omega
  refine ⟨UInt8.ofNat (x.toNat ^^^ y.toNat), ?_, ?_⟩
  · rw [u8_xor _ _ (by omega) (by omega) h0 (by omega), hz, Int.toNat_natCast]
  · constructor
    · intro h
      have h2 : x.toNat ^^^ y.toNat = x.toNat := by rw [← hz, h]
      have h3 := congrArg (fun k => x.toNat ^^^ k) h2
      simp only [← Nat.xor_assoc, Nat.xor_self, Nat.zero_xor] at h3
      omega
    · rintro rfl
      apply UInt8.toNat_inj.1
      rw [hz]; simp

set_option maxHeartbeats 1000000 in
theorem spoilt_none (w : World) (b l m c i g f t n v : Int) (P : ByteArray) (a y : Int)
    (HC1 : RowKit.Hid (∀ W, Calls Try.prog 15 #[sv b l m c i g f t n v] W fun e w' => e = .returned (.tuple #[.string P, .int .i64 2]) ∧ Below W.heap.size W w')) :
    Calls Try.prog 8 #[sv b l m c i g f t n v, .int .u8 a, .int .u8 y] w fun e w' => e = .returned (.bool true) ∧ Below w.heap.size w w' := by
  go_enter Try.func8, Try.ntmps8
  go_wp2_with fail
  refine (HC1.out _).mono ?_
  rintro e w1 ⟨rfl, hb1⟩
  have B0 := (Below.refl w.heap.size w).alloc (Nat.le_refl _) (.cells #[.int .i64 b, .int .i64 l, .int .i64 m, .int .i64 c, .int .i64 i, .int .i64 g, .int .i64 f, .int .i64 t, .int .i64 n, .int .i64 v] 23)
  have B1 := below_chain B0 hb1 B0.size
  go_wp2_with fail
  refine (alive10 _).mono ?_
  rintro e w6 ⟨rfl, hb6⟩
  have B6 := below_chain B1 hb6 B1.size
  go_wp2_with fail
  go_ret
  exact ⟨rfl, B6⟩

set_option maxHeartbeats 4000000 in
theorem spoilt_same (w : World) (b l m c i g f t n v : Int) (P : ByteArray) (hP : P.size = 128) (a y : Int) (ha0 : 0 ≤ a) (ha1 : a ≤ 255) (hy0 : 0 ≤ y) (hy1 : y ≤ 255) (j : Nat) (hjj : a % 128 = j) (x z : UInt8) (hx : (bts P)[j]? = some x) (hbz : bits .xor .u8 (x.toNat : Int) y = (z.toNat : Int))
    (HC1 : RowKit.Hid (∀ W, Calls Try.prog 15 #[sv b l m c i g f t n v] W fun e w' => e = .returned (.tuple #[.string P, .int .i64 0]) ∧ Below W.heap.size W w'))
    (HC2 : RowKit.Hid (∀ W, Calls Try.prog 20 #[.string ⟨((bts P).set j z).toArray⟩] W fun e w' => e = .returned (.tuple #[sv b l m c i g f t n v, .int .i64 0]) ∧ Below W.heap.size W w'))
    (hyH : RowKit.Hid (y = 0)) :
    Calls Try.prog 8 #[sv b l m c i g f t n v, .int .u8 a, .int .u8 y] w fun e w' => e = .returned (.bool true) ∧ Below w.heap.size w w' := by
  have hj9 : j < 128 := by omega
  have hlen : (bts P).length = 128 := by rw [bts_length]; exact hP
  obtain ⟨X, hX⟩ : ∃ X : ByteArray, X = ⟨((bts P).set j z).toArray⟩ := ⟨_, rfl⟩
  rw [← hX] at HC2
  go_enter Try.func8, Try.ntmps8
  go_wp2_with fail
  refine (HC1.out _).mono ?_
  rintro e w1 ⟨rfl, hb1⟩
  have B0 := (Below.refl w.heap.size w).alloc (Nat.le_refl _) (.cells #[.int .i64 b, .int .i64 l, .int .i64 m, .int .i64 c, .int .i64 i, .int .i64 g, .int .i64 f, .int .i64 t, .int .i64 n, .int .i64 v] 23)
  have B1 := below_chain B0 hb1 B0.size
  have hr1 := (rowAt_alloc w #[.int .i64 b, .int .i64 l, .int .i64 m, .int .i64 c, .int .i64 i, .int .i64 g, .int .i64 f, .int .i64 t, .int .i64 n, .int .i64 v] 23).below hb1 (rowAt_alloc w _ _).lt
  obtain ⟨cap, w2, hcv, hb2, hl2, hs2⟩ := conv_bytes (P := Try.prog) w1 9 42 5 P Try.underlying9 Try.underlying42 Try.underlying5
  rw [hP] at hcv
  have hk1 := hr1.lt
  have B2 := below_chain B1 hb2 B1.size
  have hr2 := hr1.below hb2 hr1.lt
  have hc := hl2.cell j (by rw [bcells_length, bts_length]; omega)
  rw [bcells_get, hx] at hc
  have hz := hl2.frozen j (by rw [bcells_length, bts_length]; omega)
  have hl3 := hl2.set j (.int .u8 (z.toNat : Int))
  rw [bcells_set] at hl3
  have hback : (convert 42 9 (.slice (some ⟨w1.heap.size, 0, none⟩) 128 cap)).run Try.prog (w2.setCell ⟨w1.heap.size, j, none⟩ (.int .u8 (z.toNat : Int))) = .ok (.string X) (w2.setCell ⟨w1.heap.size, j, none⟩ (.int .u8 (z.toNat : Int))) := by
    rw [hX]
    exact conv_string (P := Try.prog) _ 42 9 5 w1.heap.size 128 cap _ Try.underlying42 Try.underlying5 Try.underlying9 hl3 (by rw [List.length_set, hlen])
  have B3 := B2.setCell (p := ⟨w1.heap.size, j, none⟩) (by show w.heap.size ≤ w1.heap.size; omega) (.int .u8 (z.toNat : Int))
  have hr3 := hr2.other ⟨w1.heap.size, j, none⟩ (.int .u8 (z.toNat : Int)) (by show w.heap.size ≠ w1.heap.size; omega)
  clear hl3 hr2 hr1 hX
  go_wp2_with fail
  refine (HC2.out _).mono ?_
  rintro e w4 ⟨rfl, hb4⟩
  have B4 := below_chain B3 hb4 B3.size
  have hr4 := hr3.below hb4 hr3.lt
  have hk4 := hr4.lt
  obtain ⟨c0, c1, c2, c3, c4, c5, c6, c7, c8, c9⟩ := sup_cells hr4
  have hy : y = 0 := hyH.out
  go_wp2_with fail
  refine (alive10 _).mono ?_
  rintro e w6 ⟨rfl, hb6⟩
  have B6 := below_chain (B4.alloc B4.size _) hb6 (B4.alloc B4.size _).size
  go_wp2_with fail
  go_ret
  exact ⟨rfl, B6⟩

set_option maxHeartbeats 4000000 in
theorem spoilt_low (w : World) (b l m c i g f t n v : Int) (P : ByteArray) (hP : P.size = 128) (a y : Int) (ha0 : 0 ≤ a) (ha1 : a ≤ 255) (hy0 : 0 ≤ y) (hy1 : y ≤ 255) (j : Nat) (hjj : a % 128 = j) (x z : UInt8) (hx : (bts P)[j]? = some x) (hbz : bits .xor .u8 (x.toNat : Int) y = (z.toNat : Int))
    (HC1 : RowKit.Hid (∀ W, Calls Try.prog 15 #[sv b l m c i g f t n v] W fun e w' => e = .returned (.tuple #[.string P, .int .i64 0]) ∧ Below W.heap.size W w'))
    (HC2 : RowKit.Hid (∀ W, Calls Try.prog 20 #[.string ⟨((bts P).set j z).toArray⟩] W fun e w' => e = .returned (.tuple #[sv 0 0 0 0 0 0 0 0 0 0, .int .i64 80]) ∧ Below W.heap.size W w'))
    (hy : y ≠ 0) (hj1 : j < 8) :
    Calls Try.prog 8 #[sv b l m c i g f t n v, .int .u8 a, .int .u8 y] w fun e w' => e = .returned (.bool true) ∧ Below w.heap.size w w' := by
  have hj9 : j < 128 := by omega
  have hlen : (bts P).length = 128 := by rw [bts_length]; exact hP
  obtain ⟨X, hX⟩ : ∃ X : ByteArray, X = ⟨((bts P).set j z).toArray⟩ := ⟨_, rfl⟩
  rw [← hX] at HC2
  go_enter Try.func8, Try.ntmps8
  go_wp2_with fail
  refine (HC1.out _).mono ?_
  rintro e w1 ⟨rfl, hb1⟩
  have B0 := (Below.refl w.heap.size w).alloc (Nat.le_refl _) (.cells #[.int .i64 b, .int .i64 l, .int .i64 m, .int .i64 c, .int .i64 i, .int .i64 g, .int .i64 f, .int .i64 t, .int .i64 n, .int .i64 v] 23)
  have B1 := below_chain B0 hb1 B0.size
  have hr1 := (rowAt_alloc w #[.int .i64 b, .int .i64 l, .int .i64 m, .int .i64 c, .int .i64 i, .int .i64 g, .int .i64 f, .int .i64 t, .int .i64 n, .int .i64 v] 23).below hb1 (rowAt_alloc w _ _).lt
  obtain ⟨cap, w2, hcv, hb2, hl2, hs2⟩ := conv_bytes (P := Try.prog) w1 9 42 5 P Try.underlying9 Try.underlying42 Try.underlying5
  rw [hP] at hcv
  have hk1 := hr1.lt
  have B2 := below_chain B1 hb2 B1.size
  have hr2 := hr1.below hb2 hr1.lt
  have hc := hl2.cell j (by rw [bcells_length, bts_length]; omega)
  rw [bcells_get, hx] at hc
  have hz := hl2.frozen j (by rw [bcells_length, bts_length]; omega)
  have hl3 := hl2.set j (.int .u8 (z.toNat : Int))
  rw [bcells_set] at hl3
  have hback : (convert 42 9 (.slice (some ⟨w1.heap.size, 0, none⟩) 128 cap)).run Try.prog (w2.setCell ⟨w1.heap.size, j, none⟩ (.int .u8 (z.toNat : Int))) = .ok (.string X) (w2.setCell ⟨w1.heap.size, j, none⟩ (.int .u8 (z.toNat : Int))) := by
    rw [hX]
    exact conv_string (P := Try.prog) _ 42 9 5 w1.heap.size 128 cap _ Try.underlying42 Try.underlying5 Try.underlying9 hl3 (by rw [List.length_set, hlen])
  have B3 := B2.setCell (p := ⟨w1.heap.size, j, none⟩) (by show w.heap.size ≤ w1.heap.size; omega) (.int .u8 (z.toNat : Int))
  have hr3 := hr2.other ⟨w1.heap.size, j, none⟩ (.int .u8 (z.toNat : Int)) (by show w.heap.size ≠ w1.heap.size; omega)
  clear hl3 hr2 hr1 hX
  go_wp2_with fail
  refine (HC2.out _).mono ?_
  rintro e w4 ⟨rfl, hb4⟩
  have B4 := below_chain B3 hb4 B3.size
  have hr4 := hr3.below hb4 hr3.lt
  have hk4 := hr4.lt
  obtain ⟨c0, c1, c2, c3, c4, c5, c6, c7, c8, c9⟩ := sup_cells hr4
  skip
  go_wp2_with fail
  refine (alive10 _).mono ?_
  rintro e w6 ⟨rfl, hb6⟩
  have B6 := below_chain (B4.alloc B4.size _) hb6 (B4.alloc B4.size _).size
  go_wp2_with fail
  go_ret
  exact ⟨rfl, B6⟩

set_option maxHeartbeats 4000000 in
theorem spoilt_high (w : World) (b l m c i g f t n v : Int) (P : ByteArray) (hP : P.size = 128) (a y : Int) (ha0 : 0 ≤ a) (ha1 : a ≤ 255) (hy0 : 0 ≤ y) (hy1 : y ≤ 255) (j : Nat) (hjj : a % 128 = j) (x z : UInt8) (hx : (bts P)[j]? = some x) (hbz : bits .xor .u8 (x.toNat : Int) y = (z.toNat : Int))
    (HC1 : RowKit.Hid (∀ W, Calls Try.prog 15 #[sv b l m c i g f t n v] W fun e w' => e = .returned (.tuple #[.string P, .int .i64 0]) ∧ Below W.heap.size W w'))
    (HC2 : RowKit.Hid (∀ W, Calls Try.prog 20 #[.string ⟨((bts P).set j z).toArray⟩] W fun e w' => e = .returned (.tuple #[sv 0 0 0 0 0 0 0 0 0 0, .int .i64 80]) ∧ Below W.heap.size W w'))
    (hy : y ≠ 0) (hj1 : 48 ≤ j) :
    Calls Try.prog 8 #[sv b l m c i g f t n v, .int .u8 a, .int .u8 y] w fun e w' => e = .returned (.bool true) ∧ Below w.heap.size w w' := by
  have hj9 : j < 128 := by omega
  have hlen : (bts P).length = 128 := by rw [bts_length]; exact hP
  obtain ⟨X, hX⟩ : ∃ X : ByteArray, X = ⟨((bts P).set j z).toArray⟩ := ⟨_, rfl⟩
  rw [← hX] at HC2
  go_enter Try.func8, Try.ntmps8
  go_wp2_with fail
  refine (HC1.out _).mono ?_
  rintro e w1 ⟨rfl, hb1⟩
  have B0 := (Below.refl w.heap.size w).alloc (Nat.le_refl _) (.cells #[.int .i64 b, .int .i64 l, .int .i64 m, .int .i64 c, .int .i64 i, .int .i64 g, .int .i64 f, .int .i64 t, .int .i64 n, .int .i64 v] 23)
  have B1 := below_chain B0 hb1 B0.size
  have hr1 := (rowAt_alloc w #[.int .i64 b, .int .i64 l, .int .i64 m, .int .i64 c, .int .i64 i, .int .i64 g, .int .i64 f, .int .i64 t, .int .i64 n, .int .i64 v] 23).below hb1 (rowAt_alloc w _ _).lt
  obtain ⟨cap, w2, hcv, hb2, hl2, hs2⟩ := conv_bytes (P := Try.prog) w1 9 42 5 P Try.underlying9 Try.underlying42 Try.underlying5
  rw [hP] at hcv
  have hk1 := hr1.lt
  have B2 := below_chain B1 hb2 B1.size
  have hr2 := hr1.below hb2 hr1.lt
  have hc := hl2.cell j (by rw [bcells_length, bts_length]; omega)
  rw [bcells_get, hx] at hc
  have hz := hl2.frozen j (by rw [bcells_length, bts_length]; omega)
  have hl3 := hl2.set j (.int .u8 (z.toNat : Int))
  rw [bcells_set] at hl3
  have hback : (convert 42 9 (.slice (some ⟨w1.heap.size, 0, none⟩) 128 cap)).run Try.prog (w2.setCell ⟨w1.heap.size, j, none⟩ (.int .u8 (z.toNat : Int))) = .ok (.string X) (w2.setCell ⟨w1.heap.size, j, none⟩ (.int .u8 (z.toNat : Int))) := by
    rw [hX]
    exact conv_string (P := Try.prog) _ 42 9 5 w1.heap.size 128 cap _ Try.underlying42 Try.underlying5 Try.underlying9 hl3 (by rw [List.length_set, hlen])
  have B3 := B2.setCell (p := ⟨w1.heap.size, j, none⟩) (by show w.heap.size ≤ w1.heap.size; omega) (.int .u8 (z.toNat : Int))
  have hr3 := hr2.other ⟨w1.heap.size, j, none⟩ (.int .u8 (z.toNat : Int)) (by show w.heap.size ≠ w1.heap.size; omega)
  clear hl3 hr2 hr1 hX
  go_wp2_with fail
  refine (HC2.out _).mono ?_
  rintro e w4 ⟨rfl, hb4⟩
  have B4 := below_chain B3 hb4 B3.size
  have hr4 := hr3.below hb4 hr3.lt
  have hk4 := hr4.lt
  obtain ⟨c0, c1, c2, c3, c4, c5, c6, c7, c8, c9⟩ := sup_cells hr4
  skip
  go_wp2_with fail
  refine (alive10 _).mono ?_
  rintro e w6 ⟨rfl, hb6⟩
  have B6 := below_chain (B4.alloc B4.size _) hb6 (B4.alloc B4.size _).size
  go_wp2_with fail
  go_ret
  exact ⟨rfl, B6⟩

set_option maxHeartbeats 4000000 in
theorem spoilt_mid (w : World) (b l m c i g f t n v : Int) (P : ByteArray) (hP : P.size = 128) (a y : Int) (ha0 : 0 ≤ a) (ha1 : a ≤ 255) (hy0 : 0 ≤ y) (hy1 : y ≤ 255) (j : Nat) (hjj : a % 128 = j) (x z : UInt8) (hx : (bts P)[j]? = some x) (hbz : bits .xor .u8 (x.toNat : Int) y = (z.toNat : Int))
    (HC1 : RowKit.Hid (∀ W, Calls Try.prog 15 #[sv b l m c i g f t n v] W fun e w' => e = .returned (.tuple #[.string P, .int .i64 0]) ∧ Below W.heap.size W w'))
    (HC2 : RowKit.Hid (∀ W, Calls Try.prog 20 #[.string ⟨((bts P).set j z).toArray⟩] W fun e w' => e = .returned (.tuple #[sv 0 0 0 0 0 0 0 0 0 0, .int .i64 80]) ∧ Below W.heap.size W w'))
    (hy : y ≠ 0) (hj1 : 8 ≤ j) (hj2 : j < 48) :
    Calls Try.prog 8 #[sv b l m c i g f t n v, .int .u8 a, .int .u8 y] w fun e w' => e = .returned (.bool true) ∧ Below w.heap.size w w' := by
  have hj9 : j < 128 := by omega
  have hlen : (bts P).length = 128 := by rw [bts_length]; exact hP
  obtain ⟨X, hX⟩ : ∃ X : ByteArray, X = ⟨((bts P).set j z).toArray⟩ := ⟨_, rfl⟩
  rw [← hX] at HC2
  go_enter Try.func8, Try.ntmps8
  go_wp2_with fail
  refine (HC1.out _).mono ?_
  rintro e w1 ⟨rfl, hb1⟩
  have B0 := (Below.refl w.heap.size w).alloc (Nat.le_refl _) (.cells #[.int .i64 b, .int .i64 l, .int .i64 m, .int .i64 c, .int .i64 i, .int .i64 g, .int .i64 f, .int .i64 t, .int .i64 n, .int .i64 v] 23)
  have B1 := below_chain B0 hb1 B0.size
  have hr1 := (rowAt_alloc w #[.int .i64 b, .int .i64 l, .int .i64 m, .int .i64 c, .int .i64 i, .int .i64 g, .int .i64 f, .int .i64 t, .int .i64 n, .int .i64 v] 23).below hb1 (rowAt_alloc w _ _).lt
  obtain ⟨cap, w2, hcv, hb2, hl2, hs2⟩ := conv_bytes (P := Try.prog) w1 9 42 5 P Try.underlying9 Try.underlying42 Try.underlying5
  rw [hP] at hcv
  have hk1 := hr1.lt
  have B2 := below_chain B1 hb2 B1.size
  have hr2 := hr1.below hb2 hr1.lt
  have hc := hl2.cell j (by rw [bcells_length, bts_length]; omega)
  rw [bcells_get, hx] at hc
  have hz := hl2.frozen j (by rw [bcells_length, bts_length]; omega)
  have hl3 := hl2.set j (.int .u8 (z.toNat : Int))
  rw [bcells_set] at hl3
  have hback : (convert 42 9 (.slice (some ⟨w1.heap.size, 0, none⟩) 128 cap)).run Try.prog (w2.setCell ⟨w1.heap.size, j, none⟩ (.int .u8 (z.toNat : Int))) = .ok (.string X) (w2.setCell ⟨w1.heap.size, j, none⟩ (.int .u8 (z.toNat : Int))) := by
    rw [hX]
    exact conv_string (P := Try.prog) _ 42 9 5 w1.heap.size 128 cap _ Try.underlying42 Try.underlying5 Try.underlying9 hl3 (by rw [List.length_set, hlen])
  have B3 := B2.setCell (p := ⟨w1.heap.size, j, none⟩) (by show w.heap.size ≤ w1.heap.size; omega) (.int .u8 (z.toNat : Int))
  have hr3 := hr2.other ⟨w1.heap.size, j, none⟩ (.int .u8 (z.toNat : Int)) (by show w.heap.size ≠ w1.heap.size; omega)
  clear hl3 hr2 hr1 hX
  go_wp2_with fail
  refine (HC2.out _).mono ?_
  rintro e w4 ⟨rfl, hb4⟩
  have B4 := below_chain B3 hb4 B3.size
  have hr4 := hr3.below hb4 hr3.lt
  have hk4 := hr4.lt
  obtain ⟨c0, c1, c2, c3, c4, c5, c6, c7, c8, c9⟩ := sup_cells hr4
  skip
  go_wp2_with fail
  refine (alive10 _).mono ?_
  rintro e w6 ⟨rfl, hb6⟩
  have B6 := below_chain (B4.alloc B4.size _) hb6 (B4.alloc B4.size _).size
  go_wp2_with fail
  go_ret
  exact ⟨rfl, B6⟩

set_option maxHeartbeats 4000000 in
theorem spoilt_other (w : World) (b l m c i g f t n v d0 d1 d2 d3 d4 d5 d6 d7 d8 d9 : Int) (P : ByteArray) (hP : P.size = 128) (a y : Int) (ha0 : 0 ≤ a) (ha1 : a ≤ 255) (hy0 : 0 ≤ y) (hy1 : y ≤ 255) (j : Nat) (hjj : a % 128 = j) (x z : UInt8) (hx : (bts P)[j]? = some x) (hbz : bits .xor .u8 (x.toNat : Int) y = (z.toNat : Int))
    (HC1 : RowKit.Hid (∀ W, Calls Try.prog 15 #[sv b l m c i g f t n v] W fun e w' => e = .returned (.tuple #[.string P, .int .i64 0]) ∧ Below W.heap.size W w'))
    (HC2 : RowKit.Hid (∀ W, Calls Try.prog 20 #[.string ⟨((bts P).set j z).toArray⟩] W fun e w' => e = .returned (.tuple #[sv d0 d1 d2 d3 d4 d5 d6 d7 d8 d9, .int .i64 0]) ∧ Below W.heap.size W w'))
    (hy : y ≠ 0) (hj1 : 8 ≤ j) (hj2 : j < 48) (q13 : ∀ w, (Op.equalIn 10000 23 (.agg #[.int .i64 d0, .int .i64 d1, .int .i64 d2, .int .i64 d3, .int .i64 d4, .int .i64 d5, .int .i64 d6, .int .i64 d7, .int .i64 d8, .int .i64 d9]) (.agg #[.int .i64 b, .int .i64 l, .int .i64 m, .int .i64 c, .int .i64 i, .int .i64 g, .int .i64 f, .int .i64 t, .int .i64 n, .int .i64 v])).run Try.prog w = .ok false w)
    (HC3 : RowKit.Hid (∀ W, Calls Try.prog 17 #[sv d0 d1 d2 d3 d4 d5 d6 d7 d8 d9] W fun e w' => e = .returned (.bool true) ∧ Below W.heap.size W w')) :
    Calls Try.prog 8 #[sv b l m c i g f t n v, .int .u8 a, .int .u8 y] w fun e w' => e = .returned (.bool true) ∧ Below w.heap.size w w' := by
  have hj9 : j < 128 := by omega
  have hlen : (bts P).length = 128 := by rw [bts_length]; exact hP
  obtain ⟨X, hX⟩ : ∃ X : ByteArray, X = ⟨((bts P).set j z).toArray⟩ := ⟨_, rfl⟩
  rw [← hX] at HC2
  go_enter Try.func8, Try.ntmps8
  go_wp2_with fail
  refine (HC1.out _).mono ?_
  rintro e w1 ⟨rfl, hb1⟩
  have B0 := (Below.refl w.heap.size w).alloc (Nat.le_refl _) (.cells #[.int .i64 b, .int .i64 l, .int .i64 m, .int .i64 c, .int .i64 i, .int .i64 g, .int .i64 f, .int .i64 t, .int .i64 n, .int .i64 v] 23)
  have B1 := below_chain B0 hb1 B0.size
  have hr1 := (rowAt_alloc w #[.int .i64 b, .int .i64 l, .int .i64 m, .int .i64 c, .int .i64 i, .int .i64 g, .int .i64 f, .int .i64 t, .int .i64 n, .int .i64 v] 23).below hb1 (rowAt_alloc w _ _).lt
  obtain ⟨cap, w2, hcv, hb2, hl2, hs2⟩ := conv_bytes (P := Try.prog) w1 9 42 5 P Try.underlying9 Try.underlying42 Try.underlying5
  rw [hP] at hcv
  have hk1 := hr1.lt
  have B2 := below_chain B1 hb2 B1.size
  have hr2 := hr1.below hb2 hr1.lt
  have hc := hl2.cell j (by rw [bcells_length, bts_length]; omega)
  rw [bcells_get, hx] at hc
  have hz := hl2.frozen j (by rw [bcells_length, bts_length]; omega)
  have hl3 := hl2.set j (.int .u8 (z.toNat : Int))
  rw [bcells_set] at hl3
  have hback : (convert 42 9 (.slice (some ⟨w1.heap.size, 0, none⟩) 128 cap)).run Try.prog (w2.setCell ⟨w1.heap.size, j, none⟩ (.int .u8 (z.toNat : Int))) = .ok (.string X) (w2.setCell ⟨w1.heap.size, j, none⟩ (.int .u8 (z.toNat : Int))) := by
    rw [hX]
    exact conv_string (P := Try.prog) _ 42 9 5 w1.heap.size 128 cap _ Try.underlying42 Try.underlying5 Try.underlying9 hl3 (by rw [List.length_set, hlen])
  have B3 := B2.setCell (p := ⟨w1.heap.size, j, none⟩) (by show w.heap.size ≤ w1.heap.size; omega) (.int .u8 (z.toNat : Int))
  have hr3 := hr2.other ⟨w1.heap.size, j, none⟩ (.int .u8 (z.toNat : Int)) (by show w.heap.size ≠ w1.heap.size; omega)
  clear hl3 hr2 hr1 hX
  go_wp2_with fail
  refine (HC2.out _).mono ?_
  rintro e w4 ⟨rfl, hb4⟩
  have B4 := below_chain B3 hb4 B3.size
  have hr4 := hr3.below hb4 hr3.lt
  have hk4 := hr4.lt
  obtain ⟨c0, c1, c2, c3, c4, c5, c6, c7, c8, c9⟩ := sup_cells hr4
  skip
  go_wp2_with fail
  refine (HC3.out _).mono ?_
  rintro e w5 ⟨rfl, hb5⟩
  have B5 := below_chain (B4.alloc B4.size _) hb5 (B4.alloc B4.size _).size
  go_wp2_with fail
  refine (alive10 _).mono ?_
  rintro e w6 ⟨rfl, hb6⟩
  have B6 := below_chain B5 hb6 B5.size
  go_wp2_with fail
  go_ret
  exact ⟨rfl, B6⟩

set_option maxHeartbeats 1000000 in
theorem eq_super2 (b l m c i g f t n v b' l' m' c' i' g' f' t' n' v' : Int) (w : World) : (Op.equalIn 10000 23 (.agg #[.int .i64 b, .int .i64 l, .int .i64 m, .int .i64 c, .int .i64 i, .int .i64 g, .int .i64 f, .int .i64 t, .int .i64 n, .int .i64 v]) (.agg #[.int .i64 b', .int .i64 l', .int .i64 m', .int .i64 c', .int .i64 i', .int .i64 g', .int .i64 f', .int .i64 t', .int .i64 n', .int .i64 v'])).run Try.prog w = .ok ((b == b' && (l == l' && (m == m' && (c == c' && (i == i' && (g == g' && (f == f' && (t == t' && (n == n' && (v == v'))))))))))) w := by
  go_simp
  by_cases h0 : b = b'
  · by_cases h1 : l = l'
    · by_cases h2 : m = m'
      · by_cases h3 : c = c'
        · by_cases h4 : i = i'
          · by_cases h5 : g = g'
            · by_cases h6 : f = f'
              · by_cases h7 : t = t'
                · by_cases h8 : n = n'
                  · by_cases h9 : v = v' <;> simp [h0, h1, h2, h3, h4, h5, h6, h7, h8, h9]
                  · simp [h0, h1, h2, h3, h4, h5, h6, h7, h8]
                · simp [h0, h1, h2, h3, h4, h5, h6, h7]
              · simp [h0, h1, h2, h3, h4, h5, h6]
            · simp [h0, h1, h2, h3, h4, h5]
          · simp [h0, h1, h2, h3, h4]
        · simp [h0, h1, h2, h3]
      · simp [h0, h1, h2]
    · simp [h0, h1]
  · simp [h0]

theorem dec_enc (xs : List Int) (h : xs.length = 10) (bd : ∀ x ∈ xs, 0 ≤ x ∧ x ≤ 4096) (k : Nat) (hk : k < 10) : dec (encV xs) k = xs[k]'(by omega) := by
  have a1 := bd _ (List.getElem_mem (by omega : k < xs.length))
  have hg : getL (encV xs).data.toList (8 + 4 * (k : Int)) 4 = (xs[k]'(by omega)).toNat := by
    rw [enc_data, show (8 + 4 * (k : Int)) = ((magicS.length + 4 * k : Nat) : Int) by simp [magicS]]
    exact getL_words magicS xs k (by omega) (by omega) (by omega) _
  have hf : fits (encV xs).size (8 + 4 * (k : Int)) 4 = true := fits_iff.2 ⟨by omega, by omega, by rw [encV_size xs h]; omega⟩
  have ho : getIOk (encV xs) (8 + 4 * (k : Int)) 4 = true := by
    rw [getIOk, hf, hg, Bool.true_and, decide_eq_true_eq]; omega
  rw [dec, getIV, if_pos ho, hg]; omega

theorem decOk_enc (b l m c i g f t n v : Int) (h : superOk b l m c i g f t n v = true) : decOk (encV [b, l, m, c, i, g, f, t, n, v]) = true ∧ dec (encV [b, l, m, c, i, g, f, t, n, v]) 0 = b ∧ dec (encV [b, l, m, c, i, g, f, t, n, v]) 1 = l ∧ dec (encV [b, l, m, c, i, g, f, t, n, v]) 2 = m ∧ dec (encV [b, l, m, c, i, g, f, t, n, v]) 3 = c ∧ dec (encV [b, l, m, c, i, g, f, t, n, v]) 4 = i ∧ dec (encV [b, l, m, c, i, g, f, t, n, v]) 5 = g ∧ dec (encV [b, l, m, c, i, g, f, t, n, v]) 6 = f ∧ dec (encV [b, l, m, c, i, g, f, t, n, v]) 7 = t ∧ dec (encV [b, l, m, c, i, g, f, t, n, v]) 8 = n ∧ dec (encV [b, l, m, c, i, g, f, t, n, v]) 9 = v := by
  have sm := superOk_small h
  have ds := fun k hk => dec_enc [b, l, m, c, i, g, f, t, n, v] rfl sm k hk
  have e0 : dec (encV [b, l, m, c, i, g, f, t, n, v]) 0 = b := ds 0 (by omega)
  have e1 : dec (encV [b, l, m, c, i, g, f, t, n, v]) 1 = l := ds 1 (by omega)
  have e2 : dec (encV [b, l, m, c, i, g, f, t, n, v]) 2 = m := ds 2 (by omega)
  have e3 : dec (encV [b, l, m, c, i, g, f, t, n, v]) 3 = c := ds 3 (by omega)
  have e4 : dec (encV [b, l, m, c, i, g, f, t, n, v]) 4 = i := ds 4 (by omega)
  have e5 : dec (encV [b, l, m, c, i, g, f, t, n, v]) 5 = g := ds 5 (by omega)
  have e6 : dec (encV [b, l, m, c, i, g, f, t, n, v]) 6 = f := ds 6 (by omega)
  have e7 : dec (encV [b, l, m, c, i, g, f, t, n, v]) 7 = t := ds 7 (by omega)
  have e8 : dec (encV [b, l, m, c, i, g, f, t, n, v]) 8 = n := ds 8 (by omega)
  have e9 : dec (encV [b, l, m, c, i, g, f, t, n, v]) 9 = v := ds 9 (by omega)
  refine ⟨?_, e0, e1, e2, e3, e4, e5, e6, e7, e8, e9⟩
  rw [decOk, e0, e1, e2, e3, e4, e5, e6, e7, e8, e9, h]
  simp

theorem enc_low (xs : List Int) (j : Nat) (hj : j < 8) : (bts (encV xs))[j]? = magicS[j]? := by
  rw [bts, enc_data, List.append_assoc, List.getElem?_append_left (by simp [magicS]; omega)]

theorem enc_high (xs : List Int) (h : xs.length = 10) (j : Nat) (hj : 48 ≤ j) : (bts (encV xs))[j]? = (List.replicate 80 (0 : UInt8))[j - 48]? := by
  have e2 : (magicS ++ words4 xs).length = 48 := by simp [words4_length, magicS, h]
  rw [bts, enc_data, List.getElem?_append_right (by omega), e2]

theorem decOk_back {X : ByteArray} (h : decOk X = true) : encV [dec X 0, dec X 1, dec X 2, dec X 3, dec X 4, dec X 5, dec X 6, dec X 7, dec X 8, dec X 9] = X := by
  simp only [decOk, Bool.and_eq_true] at h
  have h2 := h.2
  rw [same_bytes _ _ _ Iff.rfl, decide_eq_true_eq] at h2
  exact h2

theorem spoil_at (P : ByteArray) (j : Nat) (x z : UInt8) (hx : (bts P)[j]? = some x) : (bts (⟨((bts P).set j z).toArray⟩ : ByteArray))[j]? = some z := by
  have hl : j < (bts P).length := (List.getElem?_eq_some_iff.1 hx).1
  simp only [bts] at hl ⊢
  rw [List.getElem?_set_self hl]

theorem walk_supersSpoilt (w : World) (b l m c i g f t n v : Int) (_ : ∀ z ∈ [b, l, m, c, i, g, f, t, n, v], -9223372036854775808 ≤ z ∧ z ≤ 9223372036854775807) (a : Int) (ha0 : 0 ≤ a) (ha1 : a ≤ 255) (y : Int) (hy0 : 0 ≤ y) (hy1 : y ≤ 255) :
    Calls Try.prog 8 #[sv b l m c i g f t n v, .int .u8 a, .int .u8 y] w fun e w' => e = .returned (.bool true) ∧ Below w.heap.size w w' := by
  by_cases hs : superOk b l m c i g f t n v = true
  · have H1 := Lib.hid (fun W => enc_yes b l m c i g f t n v W hs)
    have hP : (encV [b, l, m, c, i, g, f, t, n, v]).size = 128 := encV_size _ rfl
    obtain ⟨hd, e0, e1, e2, e3, e4, e5, e6, e7, e8, e9⟩ := decOk_enc b l m c i g f t n v hs
    generalize hE : encV [b, l, m, c, i, g, f, t, n, v] = P at *
    obtain ⟨j, hjj⟩ : ∃ j : Nat, a % 128 = j := ⟨(a % 128).toNat, by omega⟩
    have hj9 : j < 128 := by omega
    obtain ⟨x, hx⟩ : ∃ x, (bts P)[j]? = some x := ⟨_, List.getElem?_eq_getElem (by rw [bts_length]; omega)⟩
    obtain ⟨z, hbz, hzx⟩ := spoil_byte x y hy0 hy1
    obtain ⟨X, hX⟩ : ∃ X : ByteArray, X = ⟨((bts P).set j z).toArray⟩ := ⟨_, rfl⟩
    have hXs : X.size ≤ maxLen := by
      have : X.size = 128 := by rw [hX, ← bts_length]; simp only [bts, List.length_set]; rw [← bts, bts_length]; exact hP
      rw [this]; decide
    have hXj : (bts X)[j]? = some z := by rw [hX]; exact spoil_at P j x z hx
    by_cases hy : y = 0
    · have hXP : X = P := by
        rw [hX, hzx.2 hy]
        apply ByteArray.ext
        apply Array.toList_inj.1
        simp only [bts]
        have hx' : P.data.toList[j]? = some x := hx
        obtain ⟨hl, hx2⟩ := List.getElem?_eq_some_iff.1 hx'
        rw [← hx2]
        exact List.set_getElem_self hl
      refine spoilt_same w b l m c i g f t n v P hP a y ha0 ha1 hy0 hy1 j hjj x z hx hbz H1 (Lib.hid (fun W => ?_)) hy
      rw [← hX, hXP]
      have := dec_yes P W (by rw [hP]; decide) hd
      rw [e0, e1, e2, e3, e4, e5, e6, e7, e8, e9] at this
      exact this
    · have hne : z ≠ x := fun q => hy (hzx.1 q)
      have hXP : X ≠ P := by
        intro q
        rw [q, hx] at hXj
        exact hne (Option.some.inj hXj).symm
      by_cases hlow : j < 8
      · refine spoilt_low w b l m c i g f t n v P hP a y ha0 ha1 hy0 hy1 j hjj x z hx hbz H1 (Lib.hid (fun W => ?_)) hy hlow
        rw [← hX]
        refine dec_no X W hXs (Bool.eq_false_iff.2 (fun q => hne ?_))
        rw [← decOk_back q, enc_low _ j hlow] at hXj
        rw [← hE, enc_low _ j hlow] at hx
        exact Option.some.inj (hXj.symm.trans hx)
      · by_cases hhigh : 48 ≤ j
        · refine spoilt_high w b l m c i g f t n v P hP a y ha0 ha1 hy0 hy1 j hjj x z hx hbz H1 (Lib.hid (fun W => ?_)) hy hhigh
          rw [← hX]
          refine dec_no X W hXs (Bool.eq_false_iff.2 (fun q => hne ?_))
          rw [← decOk_back q, enc_high _ rfl j hhigh] at hXj
          rw [← hE, enc_high _ rfl j hhigh] at hx
          exact Option.some.inj (hXj.symm.trans hx)
        · by_cases hk : decOk X = true
          · refine spoilt_other w b l m c i g f t n v (dec X 0) (dec X 1) (dec X 2) (dec X 3) (dec X 4) (dec X 5) (dec X 6) (dec X 7) (dec X 8) (dec X 9) P hP a y ha0 ha1 hy0 hy1 j hjj x z hx hbz H1 (Lib.hid (fun W => ?_)) hy (by omega) (by omega) ?_ (Lib.hid (fun W => ?_))
            · rw [← hX]
              exact dec_yes X W hXs hk
            · intro W
              rw [eq_super2]
              refine congrArg (fun q => Result.ok q W) (Bool.eq_false_iff.2 (fun q => hXP ?_))
              simp only [Bool.and_eq_true, beq_iff_eq] at q
              obtain ⟨q0, q1, q2, q3, q4, q5, q6, q7, q8, q9⟩ := q
              rw [← decOk_back hk, q0, q1, q2, q3, q4, q5, q6, q7, q8, q9]
              exact hE
            · have := check_any (dec X 0) (dec X 1) (dec X 2) (dec X 3) (dec X 4) (dec X 5) (dec X 6) (dec X 7) (dec X 8) (dec X 9) W
              have hk2 := hk
              simp only [decOk, Bool.and_eq_true] at hk2
              rw [hk2.1] at this
              exact this
          · refine spoilt_mid w b l m c i g f t n v P hP a y ha0 ha1 hy0 hy1 j hjj x z hx hbz H1 (Lib.hid (fun W => ?_)) hy (by omega) (by omega)
            rw [← hX]
            exact dec_no X W hXs (by simpa using hk)
  · exact spoilt_none w b l m c i g f t n v _ a y (Lib.hid (fun W => enc_no b l m c i g f t n v W (by simpa using hs)))

/-! ### the frame (printed by mklaw.py) -/

set_option maxRecDepth 100000 in
theorem lifted_supersSpoilt (os : Os) (started : os.Started) (H : Type) (enc : TypeId × Value → H) :
    ReturnsInHanded {} Try.checked os 8 .any (Rows.supersSpoiltSpec.pre6 enc Try.prog Try.f8 Rows.supersSpoiltRow.domain false) (Rows.supersSpoiltSpec.post enc Try.prog Try.f8 false true false false) := by
  refine law_step (C := Try.checked) (tb := 4) (by kernel_rfl) (by kernel_rfl) started (by kernel_rfl) Try.func8 rfl Try.underlying4 rfl ?_ ?_
    (ChangeSpec.witness6 (enc := enc) (C := Try.checked) false ⟨#[], #[.agg #[.int .i64 0, .int .i64 0, .int .i64 0, .int .i64 0, .int .i64 0, .int .i64 0, .int .i64 0, .int .i64 0, .int .i64 0, .int .i64 0], .int .u8 0, .int .u8 0], []⟩ 8 (by kernel_rfl) (by kernel_rfl) (by kernel_rfl) (by kernel_rfl)) ?_
  · intro ds hl
    match ds, hl with
    | [d0, d1, d2], _ => rfl
  · intro t ht
    rw [show Try.f8.params.toList = [23, 5, 5] from by rw [Try.params8]] at ht
    simp only [List.mem_cons, List.not_mem_nil, or_false] at ht
    rcases ht with rfl | rfl | rfl
    · exact ⟨by kernel_rfl, of_decide_eq_true (by kernel_rfl)⟩
    · exact ⟨by kernel_rfl, of_decide_eq_true (by kernel_rfl)⟩
    · exact ⟨by kernel_rfl, of_decide_eq_true (by kernel_rfl)⟩
  · intro W args hG
    rw [show Try.f8.params.toList = [23, 5, 5] from by rw [Try.params8]] at hG
    obtain ⟨v0, v1, v2, rfl, g0, g1, g2⟩ := gotAll_args3 hG
    obtain ⟨zs0, rfl, zl0, zh0⟩ := got_flat (k := .i64) (n := 10) (by kernel_rfl) g0
    obtain ⟨z0_0, z0_1, z0_2, z0_3, z0_4, z0_5, z0_6, z0_7, z0_8, z0_9, rfl⟩ : ∃ z0_0 z0_1 z0_2 z0_3 z0_4 z0_5 z0_6 z0_7 z0_8 z0_9, zs0 = [z0_0, z0_1, z0_2, z0_3, z0_4, z0_5, z0_6, z0_7, z0_8, z0_9] := by
      match zs0, zl0 with
      | [z0_0, z0_1, z0_2, z0_3, z0_4, z0_5, z0_6, z0_7, z0_8, z0_9], _ => exact ⟨z0_0, z0_1, z0_2, z0_3, z0_4, z0_5, z0_6, z0_7, z0_8, z0_9, rfl⟩
    obtain ⟨a1, rfl, b1, c1⟩ := got_u8 Try.underlying5 g1
    obtain ⟨a2, rfl, b2, c2⟩ := got_u8 Try.underlying5 g2
    exact walk_supersSpoilt W z0_0 z0_1 z0_2 z0_3 z0_4 z0_5 z0_6 z0_7 z0_8 z0_9 (fun z hz => has_i64 (zh0 z hz)) a1 b1 c1 a2 b2 c2

theorem supersSpoilt_over : Rows.supersSpoiltRow.holds Try.pinned (OpenSpec.ofChange Rows.supersSpoiltSpec) :=
  OpenClaim.holds_of_wide 8 Try.f8 rfl rfl rfl rfl rfl rfl rfl ⟨rfl, rfl, rfl, rfl, rfl⟩ rfl rfl rfl rfl rfl (by kernel_rfl) Try.func8 (by kernel_rfl)
    (of_decide_eq_true (by kernel_rfl)) (by unfold Func.isWrapper; first | (rw [if_pos (by decide +kernel)]; kernel_rfl) | (rw [if_neg (by decide +kernel)]; exact ⟨rfl, rfl⟩))
    (fun os started H enc _ => lifted_supersSpoilt os started H enc)

theorem supersSpoilt_holds : Rows.SupersSpoiltSaid := supersSpoilt_over
#print axioms supersSpoilt_holds

end Go.Proofs.Ytdinekhpfimohaa
