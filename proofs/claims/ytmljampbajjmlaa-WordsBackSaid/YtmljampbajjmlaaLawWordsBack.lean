/- For every input the law glissadelaw01.WordsBack returns true. -/
import Derived.Test.YtmljampbajjmlaaWordsAlive
import Derived.StillTailTactics
import Derived.Test.YtmljampbajjmlaaFrame
set_option linter.unusedVariables false
set_option linter.unusedSimpArgs false
namespace Go.Proofs.Ytmljampbajjmlaa
open Go.RowKit Go.Joins

set_option maxHeartbeats 1000000 in
theorem back_yes (w : World) (s : ByteArray) (HS : s.size ≤ maxLen) (a n v : Int) (h0 : 0 ≤ v) (h1 : v ≤ 18446744073709551615) (hf : putOk s a n v = true) :
    Calls Try.prog 4 #[.string s, .agg #[.int .i64 a, .int .i64 n], .int .u64 v] w fun e w' => e = .returned (.bool true) ∧ Below w.heap.size w w' := by
  obtain ⟨hf1, hf2⟩ : fits s.size a n = true ∧ v.toNat < 256 ^ n.toNat := by simpa [putOk] using hf
  obtain ⟨hn, a0, a1⟩ := fits_iff.1 hf1
  obtain ⟨T, hT⟩ : ∃ T, T = putV s a n v := ⟨_, rfl⟩
  have hTd : bts T = putL (bts s) a n v.toNat := by rw [hT, putV, if_pos hf]
  have hfl : fits (bts s).length a n = true := by rw [bts_length]; exact hf1
  have hsz : T.size = s.size := by rw [← bts_length T, hTd, putL_length hfl, bts_length]
  have hg : getV T a n = v.toNat := by
    rw [getV, hsz, if_pos hf1]
    show getL (bts T) a n = _
    rw [hTd]; exact getL_putL hfl hf2
  have hp : T.extract 0 a.toNat = s.extract 0 a.toNat := by
    apply ByteArray.ext; apply Array.toList_inj.1
    have := putL_take (v := v.toNat) hfl
    rw [← hTd] at this
    simpa [ByteArray.data_extract] using this
  have hq : T.extract (a + n).toNat s.size = s.extract (a + n).toNat s.size := by
    apply ByteArray.ext; apply Array.toList_inj.1
    have := putL_drop (v := v.toNat) hfl
    rw [← hTd, show a.toNat + n.toNat = (a + n).toNat by omega] at this
    have e1 : (T.data.toList.drop (a + n).toNat).take (s.size - (a + n).toNat) = (s.data.toList.drop (a + n).toNat).take (s.size - (a + n).toNat) := by rw [this]
    simpa [ByteArray.data_extract] using e1
  have HP := Lib.hid hp
  have HQ := Lib.hid hq
  have HC1 := Lib.hid (fun W => by have := put_any s a n v W HS h0 h1; rw [hf, ← hT] at this; exact this : ∀ W, Calls Try.prog 15 #[.string s, .int .i64 a, .int .i64 n, .int .u64 v] W fun e w' => e = .returned (.tuple #[.string T, .bool true]) ∧ Below W.heap.size W w')
  have HC2 := Lib.hid (fun W => by have := get_any T a n W (by rw [hsz]; exact HS); rw [hg, hsz, hf1, Int.toNat_of_nonneg h0] at this; exact this : ∀ W, Calls Try.prog 18 #[.string T, .int .i64 a, .int .i64 n] W fun e w' => e = .returned (.tuple #[.int .u64 v, .bool true]) ∧ W = w')
  have n1 : 1 ≤ n := by omega
  have n8 : n ≤ 8 := by omega
  have HS' := HS
  unfold maxLen at HS'
  have b1 : a ≤ s.size - n := by omega
  have b2 : a ≤ s.size := by omega
  have b3 : a + n ≤ s.size := by omega
  have b4 : 0 ≤ a + n := by omega
  clear hf hf2 hf1 hn hT hTd hfl hg hp hq
  go_enter Try.func4, Try.ntmps4
  go_wp2_with fail
  refine (HC1.out _).mono ?_
  rintro e w1 ⟨rfl, hb1⟩
  have c0 := new_cell hb1 0 rfl
  have c1 := new_cell hb1 1 rfl
  go_wp2_with fail
  refine (HC2.out _).mono ?_
  rintro e w1 ⟨rfl, rfl⟩
  go_wp2_with fail
  have hp := HP.out
  have hq := HQ.out
  have hwr : IntKind.i64.wrap (a + n) = a + n := IntWalk.i64_in _ (by omega)
  go_still_tail 35, (by kernel_rfl)
  change wpList _ _ _ _ _ w1.drew
  go_wp2_with fail
  refine (alive01 _).mono ?_
  rintro e w3 ⟨rfl, hb3⟩
  go_wp2_with fail
  go_ret
  exact ⟨rfl, (((Below.refl _ _).alloc (Nat.le_refl _) _).trans (below_le hb1 (by simp))).trans ((below_le (below_draws _ w1 1) (Nat.le_refl _)).trans (below_le hb3 (by have := hb1.size; simp at *; omega)))⟩

set_option maxHeartbeats 1000000 in
theorem back_no (w : World) (s : ByteArray) (HS : s.size ≤ maxLen) (a n v : Int) (h0 : 0 ≤ v) (h1 : v ≤ 18446744073709551615) (hf : putOk s a n v = false) :
    Calls Try.prog 4 #[.string s, .agg #[.int .i64 a, .int .i64 n], .int .u64 v] w fun e w' => e = .returned (.bool true) ∧ Below w.heap.size w w' := by
  have HC1 := Lib.hid (fun W => put_no s a n v W HS hf h0 h1 : ∀ W, Calls Try.prog 15 #[.string s, .int .i64 a, .int .i64 n, .int .u64 v] W fun e w' => e = .returned (.tuple #[.string ⟨#[]⟩, .bool false]) ∧ Below W.heap.size W w')
  clear hf
  go_enter Try.func4, Try.ntmps4
  go_wp2_with fail
  refine (HC1.out _).mono ?_
  rintro e w1 ⟨rfl, hb1⟩
  go_wp2_with fail
  refine (alive01 _).mono ?_
  rintro e w3 ⟨rfl, hb3⟩
  go_wp2_with fail
  go_ret
  exact ⟨rfl, (((Below.refl _ _).alloc (Nat.le_refl _) _).trans (below_le hb1 (by simp))).trans (below_le hb3 (by have := hb1.size; simp at *; omega))⟩

theorem walk_wordsBack (w : World) (s : ByteArray) (hs : s.size ≤ 140737488351232) (a n : Int) (hz : ∀ z ∈ [a, n], -9223372036854775808 ≤ z ∧ z ≤ 9223372036854775807) (v : Int) (h0 : 0 ≤ v) (h1 : v ≤ 18446744073709551615) :
    Calls Try.prog 4 #[.string s, .agg #[.int .i64 a, .int .i64 n], .int .u64 v] w fun e w' => e = .returned (.bool true) ∧ Below w.heap.size w w' := by
  by_cases hf : putOk s a n v = true
  · exact back_yes w s (size_le_maxLen hs) a n v h0 h1 hf
  · exact back_no w s (size_le_maxLen hs) a n v h0 h1 (by simpa using hf)

/-! ### the frame (printed by mklaw.py) -/

set_option maxRecDepth 100000 in
theorem lifted_wordsBack (os : Os) (started : os.Started) (H : Type) (enc : TypeId × Value → H) :
    ReturnsInHanded {} Try.checked os 4 .any (Rows.wordsBackSpec.pre6 enc Try.prog Try.f4 Rows.wordsBackRow.domain false) (Rows.wordsBackSpec.post enc Try.prog Try.f4 false true false false) := by
  refine law_step (C := Try.checked) (tb := 4) (by kernel_rfl) (by kernel_rfl) started (by kernel_rfl) Try.func4 rfl Try.underlying4 rfl ?_ ?_
    (ChangeSpec.witness6 (enc := enc) (C := Try.checked) false ⟨#[], #[.string ByteArray.empty, .agg #[.int .i64 0, .int .i64 0], .int .u64 0], []⟩ 8 (by kernel_rfl) (by kernel_rfl) (by kernel_rfl) (by kernel_rfl)) ?_
  · intro ds hl
    match ds, hl with
    | [d0, d1, d2], _ => rfl
  · intro t ht
    rw [show Try.f4.params.toList = [9, 23, 24] from by rw [Try.params4]] at ht
    simp only [List.mem_cons, List.not_mem_nil, or_false] at ht
    rcases ht with rfl | rfl | rfl
    · exact ⟨by kernel_rfl, of_decide_eq_true (by kernel_rfl)⟩
    · exact ⟨by kernel_rfl, of_decide_eq_true (by kernel_rfl)⟩
    · exact ⟨by kernel_rfl, of_decide_eq_true (by kernel_rfl)⟩
  · intro W args hG
    rw [show Try.f4.params.toList = [9, 23, 24] from by rw [Try.params4]] at hG
    obtain ⟨v0, v1, v2, rfl, g0, g1, g2⟩ := gotAll_args3 hG
    obtain ⟨a0, rfl, b0⟩ := got_string Try.underlying9 g0
    obtain ⟨zs1, rfl, zl1, zh1⟩ := got_flat (k := .i64) (n := 2) (by kernel_rfl) g1
    obtain ⟨z1_0, z1_1, rfl⟩ : ∃ z1_0 z1_1, zs1 = [z1_0, z1_1] := by
      match zs1, zl1 with
      | [z1_0, z1_1], _ => exact ⟨z1_0, z1_1, rfl⟩
    obtain ⟨a2, rfl, b2, c2⟩ := got_u64 Try.underlying24 g2
    exact walk_wordsBack W a0 b0 z1_0 z1_1 (fun z hz => has_i64 (zh1 z hz)) a2 b2 c2

theorem wordsBack_over : Rows.wordsBackRow.holds Try.pinned (OpenSpec.ofChange Rows.wordsBackSpec) :=
  OpenClaim.holds_of_wide 4 Try.f4 rfl rfl rfl rfl rfl rfl rfl ⟨rfl, rfl, rfl, rfl, rfl⟩ rfl rfl rfl rfl rfl (by kernel_rfl) Try.func4 (by kernel_rfl)
    (of_decide_eq_true (by kernel_rfl)) (by unfold Func.isWrapper; first | (rw [if_pos (by decide +kernel)]; kernel_rfl) | (rw [if_neg (by decide +kernel)]; exact ⟨rfl, rfl⟩))
    (fun os started H enc _ => lifted_wordsBack os started H enc)

theorem wordsBack_holds : Rows.WordsBackSaid := wordsBack_over
#print axioms wordsBack_holds

end Go.Proofs.Ytmljampbajjmlaa
