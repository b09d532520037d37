/- For every input the law glissadelaw01.WordsInts returns true. -/
import Derived.Test.YtmljampbajjmlaaWordsAlive
import Derived.Test.YtmljampbajjmlaaFrame
set_option linter.unusedVariables false
set_option linter.unusedSimpArgs false
namespace Go.Proofs.Ytmljampbajjmlaa
open Go.RowKit Go.Joins

set_option maxHeartbeats 400000 in
theorem walk_wordsInts (w : World) (s : ByteArray) (hs : s.size ≤ 140737488351232) (a n : Int) (hz : ∀ z ∈ [a, n], -9223372036854775808 ≤ z ∧ z ≤ 9223372036854775807) (v : Int) (h0 : -9223372036854775808 ≤ v) (h1 : v ≤ 9223372036854775807) :
    Calls Try.prog 8 #[.string s, .agg #[.int .i64 a, .int .i64 n], .int .i64 v] w fun e w' => e = .returned (.bool true) ∧ Below w.heap.size w w' := by
  have HS := size_le_maxLen hs
  clear hz
  go_enter Try.func8, Try.ntmps8
  go_wp2_with fail
  refine (putint_any _ _ _ _ _ HS h1).mono ?_
  rintro e w1 ⟨rfl, hb1⟩
  have c0 := new_cell hb1 0 rfl
  have c1 := new_cell hb1 1 rfl
  go_wp2_with fail
  refine (rputint_any _ _ _ _ _ HS h1).mono ?_
  rintro e w2 ⟨rfl, hb2⟩
  go_wp2_with fail
  refine (alive01 _).mono ?_
  rintro e w3 ⟨rfl, hb3⟩
  go_wp2_with fail
  go_ret
  exact ⟨rfl, (((Below.refl _ _).alloc (Nat.le_refl _) _).trans (below_le hb1 (by simp))).trans ((below_le hb2 (by have := hb1.size; simp at this; omega)).trans (below_le hb3 (by have := hb1.size; have := hb2.size; simp at *; omega)))⟩

/-! ### the frame (printed by mklaw.py) -/

set_option maxRecDepth 100000 in
theorem lifted_wordsInts (os : Os) (started : os.Started) (H : Type) (enc : TypeId × Value → H) :
    ReturnsInHanded {} Try.checked os 8 .any (Rows.wordsIntsSpec.pre6 enc Try.prog Try.f8 Rows.wordsIntsRow.domain false) (Rows.wordsIntsSpec.post enc Try.prog Try.f8 false true false false) := by
  refine law_step (C := Try.checked) (tb := 4) (by kernel_rfl) (by kernel_rfl) started (by kernel_rfl) Try.func8 rfl Try.underlying4 rfl ?_ ?_
    (ChangeSpec.witness6 (enc := enc) (C := Try.checked) false ⟨#[], #[.string ByteArray.empty, .agg #[.int .i64 0, .int .i64 0], .int .i64 0], []⟩ 8 (by kernel_rfl) (by kernel_rfl) (by kernel_rfl) (by kernel_rfl)) ?_
  · intro ds hl
    match ds, hl with
    | [d0, d1, d2], _ => rfl
  · intro t ht
    rw [show Try.f8.params.toList = [9, 23, 3] from by rw [Try.params8]] at ht
    simp only [List.mem_cons, List.not_mem_nil, or_false] at ht
    rcases ht with rfl | rfl | rfl
    · exact ⟨by kernel_rfl, of_decide_eq_true (by kernel_rfl)⟩
    · exact ⟨by kernel_rfl, of_decide_eq_true (by kernel_rfl)⟩
    · exact ⟨by kernel_rfl, of_decide_eq_true (by kernel_rfl)⟩
  · intro W args hG
    rw [show Try.f8.params.toList = [9, 23, 3] from by rw [Try.params8]] at hG
    obtain ⟨v0, v1, v2, rfl, g0, g1, g2⟩ := gotAll_args3 hG
    obtain ⟨a0, rfl, b0⟩ := got_string Try.underlying9 g0
    obtain ⟨zs1, rfl, zl1, zh1⟩ := got_flat (k := .i64) (n := 2) (by kernel_rfl) g1
    obtain ⟨z1_0, z1_1, rfl⟩ : ∃ z1_0 z1_1, zs1 = [z1_0, z1_1] := by
      match zs1, zl1 with
      | [z1_0, z1_1], _ => exact ⟨z1_0, z1_1, rfl⟩
    obtain ⟨a2, rfl, b2, c2⟩ := got_i64 Try.underlying3 g2
    exact walk_wordsInts W a0 b0 z1_0 z1_1 (fun z hz => has_i64 (zh1 z hz)) a2 b2 c2

theorem wordsInts_over : Rows.wordsIntsRow.holds Try.pinned (OpenSpec.ofChange Rows.wordsIntsSpec) :=
  OpenClaim.holds_of_wide 8 Try.f8 rfl rfl rfl rfl rfl rfl rfl ⟨rfl, rfl, rfl, rfl, rfl⟩ rfl rfl rfl rfl rfl (by kernel_rfl) Try.func8 (by kernel_rfl)
    (of_decide_eq_true (by kernel_rfl)) (by unfold Func.isWrapper; first | (rw [if_pos (by decide +kernel)]; kernel_rfl) | (rw [if_neg (by decide +kernel)]; exact ⟨rfl, rfl⟩))
    (fun os started H enc _ => lifted_wordsInts os started H enc)

theorem wordsInts_holds : Rows.WordsIntsSaid := wordsInts_over
#print axioms wordsInts_holds

end Go.Proofs.Ytmljampbajjmlaa
