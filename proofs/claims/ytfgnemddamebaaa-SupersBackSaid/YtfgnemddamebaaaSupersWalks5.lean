/- Walks: the superblock of a block. -/
import Derived.Test.YtfgnemddamebaaaSupersWalks2
set_option linter.unusedVariables false
set_option linter.unusedSimpArgs false
set_option maxRecDepth 100000
namespace Go.Proofs.Ytfgnemddamebaaa
open Go.RowKit Go.Joins

/-- a field of a block -/
def dec (s : ByteArray) (k : Nat) : Int := getIV s (8 + 4 * (k : Int)) 4

theorem dec_bd (s : ByteArray) (k : Nat) : 0 ≤ dec s k ∧ dec s k ≤ 9223372036854775807 := getIV_le _ _ _

/-- the fields that are known behind k rounds -/
def decR (s : ByteArray) (k : Nat) : List Int := (List.range 10).map fun j => if j < k then dec s j else 0
theorem decR_length (s : ByteArray) (k : Nat) : (decR s k).length = 10 := by simp [decR]
theorem decR_zero (s : ByteArray) : (decR s 0).map (Value.int .i64) = [.int .i64 0, .int .i64 0, .int .i64 0, .int .i64 0, .int .i64 0, .int .i64 0, .int .i64 0, .int .i64 0, .int .i64 0, .int .i64 0] := rfl
theorem decR_ten (s : ByteArray) : (decR s 10).map (Value.int .i64) = [.int .i64 (dec s 0), .int .i64 (dec s 1), .int .i64 (dec s 2), .int .i64 (dec s 3), .int .i64 (dec s 4), .int .i64 (dec s 5), .int .i64 (dec s 6), .int .i64 (dec s 7), .int .i64 (dec s 8), .int .i64 (dec s 9)] := rfl
theorem decR_set (s : ByteArray) (k : Nat) (hk : k < 10) : ((decR s k).map (Value.int .i64)).set k (.int .i64 (dec s k)) = (decR s (k + 1)).map (Value.int .i64) := by
  apply List.ext_getElem?
  intro j
  rw [List.getElem?_set]
  by_cases c : k = j
  · subst c
    simp [decR, hk]
  · rw [if_neg c]
    simp only [decR, List.getElem?_map, List.map_map]
    by_cases hj : j < 10
    · rw [List.getElem?_range hj]
      simp only [Option.map_some]
      simp only [Function.comp]
      by_cases d : j < k
      · rw [if_pos d, if_pos (by omega)]
      · rw [if_neg d, if_neg (by omega)]
    · rw [List.getElem?_eq_none (by simp; omega)]
      rfl

/-- is a block a superblock's? -/
def decOk (s : ByteArray) : Bool := superOk (dec s 0) (dec s 1) (dec s 2) (dec s 3) (dec s 4) (dec s 5) (dec s 6) (dec s 7) (dec s 8) (dec s 9) && ((encV [dec s 0, dec s 1, dec s 2, dec s 3, dec s 4, dec s 5, dec s 6, dec s 7, dec s 8, dec s 9]).toList == s.toList)

theorem dec_index (K k : Nat) (hk : k < 10) : ∀ w, (Instr.index 79 (.agg #[.pointer (some ⟨K, 0, none⟩), .pointer (some ⟨K, 1, none⟩), .pointer (some ⟨K, 2, none⟩), .pointer (some ⟨K, 3, none⟩), .pointer (some ⟨K, 4, none⟩), .pointer (some ⟨K, 5, none⟩), .pointer (some ⟨K, 6, none⟩), .pointer (some ⟨K, 7, none⟩), .pointer (some ⟨K, 8, none⟩), .pointer (some ⟨K, 9, none⟩)]) (.int .i64 (k : Int))).run Try.prog w = .ok (.pointer (some ⟨K, k, none⟩)) w := by
  obtain rfl | rfl | rfl | rfl | rfl | rfl | rfl | rfl | rfl | rfl : k = 0 ∨ k = 1 ∨ k = 2 ∨ k = 3 ∨ k = 4 ∨ k = 5 ∨ k = 6 ∨ k = 7 ∨ k = 8 ∨ k = 9 := by omega
  · exact fun _ => by kernel_rfl
  · exact fun _ => by kernel_rfl
  · exact fun _ => by kernel_rfl
  · exact fun _ => by kernel_rfl
  · exact fun _ => by kernel_rfl
  · exact fun _ => by kernel_rfl
  · exact fun _ => by kernel_rfl
  · exact fun _ => by kernel_rfl
  · exact fun _ => by kernel_rfl
  · exact fun _ => by kernel_rfl

set_option maxHeartbeats 1000000 in
theorem dec_mid (s : ByteArray) (w : World) (hs : s.size ≤ maxLen) (E : Value) (e0 : Int) (es : ByteArray)
    (HC1 : Hid (∀ W, Calls Try.prog 23 #[sv (dec s 0) (dec s 1) (dec s 2) (dec s 3) (dec s 4) (dec s 5) (dec s 6) (dec s 7) (dec s 8) (dec s 9)] W fun e w' => e = .returned (.tuple #[.string es, .int .i64 e0]) ∧ Below W.heap.size W w'))
    (hres : e0 = 0 ∧ (es.toList == s.toList) = true ∧ E = .tuple #[sv (dec s 0) (dec s 1) (dec s 2) (dec s 3) (dec s 4) (dec s 5) (dec s 6) (dec s 7) (dec s 8) (dec s 9), .int .i64 0] ∨ e0 = 0 ∧ (es.toList == s.toList) = false ∧ E = .tuple #[sv 0 0 0 0 0 0 0 0 0 0, .int .i64 80] ∨ e0 = 2 ∧ E = .tuple #[sv 0 0 0 0 0 0 0 0 0 0, .int .i64 80]) :
    Calls Try.prog 25 #[.string s] w fun e w' => e = .returned E ∧ Below w.heap.size w w' := by
  have HX := Lib.hid (fun K k hk => dec_index K k hk)
  have HR := Lib.hid hres
  clear hres
  go_enter Try.func25, Try.ntmps25
  go_wp2_with fail
  go_loopw [20] (fun j wr => ∃ k : Nat, k ≤ 10 ∧ j = .int .i64 k ∧ RowAt wr (w.heap.size + 1) ((decR s k).map (Value.int .i64)) ∧ RowAt wr w.heap.size [.int .i64 0, .int .i64 0, .int .i64 0, .int .i64 0, .int .i64 0, .int .i64 0, .int .i64 0, .int .i64 0, .int .i64 0, .int .i64 0] ∧ Below w.heap.size w wr) (fun j _ => 10 - (intOf j).toNat)
  case atStart =>
    have r0 := rowAt_alloc w #[.int .i64 0, .int .i64 0, .int .i64 0, .int .i64 0, .int .i64 0, .int .i64 0, .int .i64 0, .int .i64 0, .int .i64 0, .int .i64 0] 49
    have r1 := rowAt_alloc (w.alloc (.cells #[.int .i64 0, .int .i64 0, .int .i64 0, .int .i64 0, .int .i64 0, .int .i64 0, .int .i64 0, .int .i64 0, .int .i64 0, .int .i64 0] 49)) #[.int .i64 0, .int .i64 0, .int .i64 0, .int .i64 0, .int .i64 0, .int .i64 0, .int .i64 0, .int .i64 0, .int .i64 0, .int .i64 0] 49
    rw [World.size_alloc] at r1
    exact ⟨0, by omega, rfl, r1, r0.alloc _, ((Below.refl _ _).alloc (Nat.le_refl _) _).alloc (by simp) _⟩
  case round =>
    obtain ⟨k, hk, rfl, hrow, hz0, B1⟩ := hrel
    by_cases hlt : k < 10
    · have hx := HX.out (w.heap.size + 1) k hlt
      have hlen : ((decR s k).map (Value.int .i64)).length = 10 := by rw [List.length_map, decR_length]
      obtain ⟨old, hc⟩ := hrow.there k (by rw [hlen]; exact hlt)
      have hfz := hrow.frozen k (by rw [hlen]; exact hlt)
      clear hlen
      have HC2 : Hid (∀ W, Calls Try.prog 21 #[.string s, .int .i64 (8 + 4 * (k : Int)), .int .i64 4] W fun e w' => e = .returned (.tuple #[.int .i64 (dec s k), .bool (getIOk s (8 + 4 * (k : Int)) 4)]) ∧ W = w') := fun W => getint_any s (8 + 4 * (k : Int)) 4 W hs
      go_wp2_with fail
      refine (place_any _ _ (by omega) (by omega)).mono ?_
      rintro e w4 ⟨rfl, rfl⟩
      go_wp2_with fail
      refine (HC2.out _).mono ?_
      rintro e w4 ⟨rfl, rfl⟩
      go_wp2_with fail
      go_roundw
      case rel =>
        refine ⟨k + 1, by omega, by go_num, ?_, hz0.other _ _ (by simp), B1.setCell (by simp) _⟩
        rw [← decR_set s k hlt]
        exact hrow.set _ _
      case measure => simp [intOf]; omega
    · obtain rfl : k = 10 := by omega
      have hrow' : RowAt wr (w.heap.size + 1) [.int .i64 (dec s 0), .int .i64 (dec s 1), .int .i64 (dec s 2), .int .i64 (dec s 3), .int .i64 (dec s 4), .int .i64 (dec s 5), .int .i64 (dec s 6), .int .i64 (dec s 7), .int .i64 (dec s 8), .int .i64 (dec s 9)] := hrow
      clear hrow
      obtain ⟨c0, c1, c2, c3, c4, c5, c6, c7, c8, c9⟩ := sup_cells hrow'
      go_wp2_with fail
      refine (HC1.out _).mono ?_
      rintro e w4 ⟨rfl, hb4⟩
      have B4 := below_chain B1 hb4 B1.size
      have hr4 := hrow'.below hb4 hrow'.lt
      have hz4 := hz0.below hb4 hz0.lt
      clear c0  c1  c2  c3  c4  c5  c6  c7  c8  c9
      obtain ⟨c0, c1, c2, c3, c4, c5, c6, c7, c8, c9⟩ := sup_cells hr4
      rcases HR.out with ⟨rfl, h1, rfl⟩ | ⟨rfl, h1, rfl⟩ | ⟨rfl, rfl⟩
      all_goals
        obtain ⟨o0, x0⟩ := hz4.there 0 (by simp)
        have y0 := hz4.frozen 0 (by simp)
        obtain ⟨o1, x1⟩ := hz4.there 1 (by simp)
        have y1 := hz4.frozen 1 (by simp)
        obtain ⟨o2, x2⟩ := hz4.there 2 (by simp)
        have y2 := hz4.frozen 2 (by simp)
        obtain ⟨o3, x3⟩ := hz4.there 3 (by simp)
        have y3 := hz4.frozen 3 (by simp)
        obtain ⟨o4, x4⟩ := hz4.there 4 (by simp)
        have y4 := hz4.frozen 4 (by simp)
        obtain ⟨o5, x5⟩ := hz4.there 5 (by simp)
        have y5 := hz4.frozen 5 (by simp)
        obtain ⟨o6, x6⟩ := hz4.there 6 (by simp)
        have y6 := hz4.frozen 6 (by simp)
        obtain ⟨o7, x7⟩ := hz4.there 7 (by simp)
        have y7 := hz4.frozen 7 (by simp)
        obtain ⟨o8, x8⟩ := hz4.there 8 (by simp)
        have y8 := hz4.frozen 8 (by simp)
        obtain ⟨o9, x9⟩ := hz4.there 9 (by simp)
        have y9 := hz4.frozen 9 (by simp)
        go_wp2_with fail
      · refine bodyPost_ret (v := .tuple #[sv (dec s 0) (dec s 1) (dec s 2) (dec s 3) (dec s 4) (dec s 5) (dec s 6) (dec s 7) (dec s 8) (dec s 9), .int .i64 0]) ?_ rfl ⟨rfl, ?_⟩
        · have hfin := ((((((((((hz4.set 0 (.int .i64 (dec s 0))).set 1 (.int .i64 (dec s 1))).set 2 (.int .i64 (dec s 2))).set 3 (.int .i64 (dec s 3))).set 4 (.int .i64 (dec s 4))).set 5 (.int .i64 (dec s 5))).set 6 (.int .i64 (dec s 6))).set 7 (.int .i64 (dec s 7))).set 8 (.int .i64 (dec s 8))).set 9 (.int .i64 (dec s 9)))
          obtain ⟨q0, q1, q2, q3, q4, q5, q6, q7, q8, q9⟩ := sup_cells (show RowAt _ _ [.int .i64 (dec s 0), .int .i64 (dec s 1), .int .i64 (dec s 2), .int .i64 (dec s 3), .int .i64 (dec s 4), .int .i64 (dec s 5), .int .i64 (dec s 6), .int .i64 (dec s 7), .int .i64 (dec s 8), .int .i64 (dec s 9)] from hfin)
          simp [results, Try.results25, go_sem, q0, q1, q2, q3, q4, q5, q6, q7, q8, q9]; done
        · go_grown
      · refine bodyPost_ret (v := .tuple #[sv 0 0 0 0 0 0 0 0 0 0, .int .i64 80]) ?_ rfl ⟨rfl, ?_⟩
        · have hfin := ((((((((((hz4.set 0 (.int .i64 0)).set 1 (.int .i64 0)).set 2 (.int .i64 0)).set 3 (.int .i64 0)).set 4 (.int .i64 0)).set 5 (.int .i64 0)).set 6 (.int .i64 0)).set 7 (.int .i64 0)).set 8 (.int .i64 0)).set 9 (.int .i64 0))
          obtain ⟨q0, q1, q2, q3, q4, q5, q6, q7, q8, q9⟩ := sup_cells (show RowAt _ _ [.int .i64 0, .int .i64 0, .int .i64 0, .int .i64 0, .int .i64 0, .int .i64 0, .int .i64 0, .int .i64 0, .int .i64 0, .int .i64 0] from hfin)
          simp [results, Try.results25, go_sem, q0, q1, q2, q3, q4, q5, q6, q7, q8, q9]; done
        · go_grown
      · refine bodyPost_ret (v := .tuple #[sv 0 0 0 0 0 0 0 0 0 0, .int .i64 80]) ?_ rfl ⟨rfl, ?_⟩
        · have hfin := ((((((((((hz4.set 0 (.int .i64 0)).set 1 (.int .i64 0)).set 2 (.int .i64 0)).set 3 (.int .i64 0)).set 4 (.int .i64 0)).set 5 (.int .i64 0)).set 6 (.int .i64 0)).set 7 (.int .i64 0)).set 8 (.int .i64 0)).set 9 (.int .i64 0))
          obtain ⟨q0, q1, q2, q3, q4, q5, q6, q7, q8, q9⟩ := sup_cells (show RowAt _ _ [.int .i64 0, .int .i64 0, .int .i64 0, .int .i64 0, .int .i64 0, .int .i64 0, .int .i64 0, .int .i64 0, .int .i64 0, .int .i64 0] from hfin)
          simp [results, Try.results25, go_sem, q0, q1, q2, q3, q4, q5, q6, q7, q8, q9]; done
        · go_grown

theorem dec_yes (s : ByteArray) (w : World) (hs : s.size ≤ maxLen) (h : decOk s = true) :
    Calls Try.prog 25 #[.string s] w fun e w' => e = .returned (.tuple #[sv (dec s 0) (dec s 1) (dec s 2) (dec s 3) (dec s 4) (dec s 5) (dec s 6) (dec s 7) (dec s 8) (dec s 9), .int .i64 0]) ∧ Below w.heap.size w w' := by
  simp only [decOk, Bool.and_eq_true] at h
  exact dec_mid s w hs _ 0 (encV [dec s 0, dec s 1, dec s 2, dec s 3, dec s 4, dec s 5, dec s 6, dec s 7, dec s 8, dec s 9]) (Lib.hid (fun W => enc_yes _ _ _ _ _ _ _ _ _ _ W h.1)) (.inl ⟨rfl, h.2, rfl⟩)

theorem dec_no (s : ByteArray) (w : World) (hs : s.size ≤ maxLen) (h : decOk s = false) :
    Calls Try.prog 25 #[.string s] w fun e w' => e = .returned (.tuple #[sv 0 0 0 0 0 0 0 0 0 0, .int .i64 80]) ∧ Below w.heap.size w w' := by
  by_cases hk : superOk (dec s 0) (dec s 1) (dec s 2) (dec s 3) (dec s 4) (dec s 5) (dec s 6) (dec s 7) (dec s 8) (dec s 9) = true
  · have h2 : ((encV [dec s 0, dec s 1, dec s 2, dec s 3, dec s 4, dec s 5, dec s 6, dec s 7, dec s 8, dec s 9]).toList == s.toList) = false := by
      rw [decOk, hk] at h; simpa using h
    exact dec_mid s w hs _ 0 (encV [dec s 0, dec s 1, dec s 2, dec s 3, dec s 4, dec s 5, dec s 6, dec s 7, dec s 8, dec s 9]) (Lib.hid (fun W => enc_yes _ _ _ _ _ _ _ _ _ _ W hk)) (.inr (.inl ⟨rfl, h2, rfl⟩))
  · exact dec_mid s w hs _ 2 ⟨#[]⟩ (Lib.hid (fun W => enc_no _ _ _ _ _ _ _ _ _ _ W (by simpa using hk))) (.inr (.inr ⟨rfl, rfl⟩))

end Go.Proofs.Ytfgnemddamebaaa
