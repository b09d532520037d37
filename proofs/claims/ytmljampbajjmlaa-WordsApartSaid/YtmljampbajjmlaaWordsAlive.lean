/- The examples of the words' statements come out; comparing texts. -/
import Derived.Test.YtmljampbajjmlaaWordsWalks3
set_option linter.unusedVariables false
set_option linter.unusedSimpArgs false
namespace Go.Proofs.Ytmljampbajjmlaa
open Go.RowKit Go.Joins

theorem getV_c1 : getV ⟨#[1, 2, 3, 4, 5]⟩ 1 4 = 84148994 ∧ fits (ByteArray.size ⟨#[1, 2, 3, 4, 5]⟩) 1 4 = true := by decide +kernel
theorem putV_c1 : putV ⟨#[1, 2, 3]⟩ 1 2 258 = ⟨#[1, 2, 1]⟩ ∧ putOk ⟨#[1, 2, 3]⟩ 1 2 258 = true := by decide +kernel
theorem putV_c2 : putOk ⟨#[1, 2, 3]⟩ 1 2 65536 = false := by decide +kernel
theorem getV_c2 : fits (ByteArray.size ⟨#[1, 2, 3]⟩) 2 2 = false := by decide +kernel

set_option maxHeartbeats 400000 in
theorem alive01 (w : World) : Calls Try.prog 17 #[] w fun e w' => e = .returned (.bool true) ∧ Below w.heap.size w w' := by
  go_enter Try.func17, Try.ntmps17
  go_wp2_with fail
  refine (get_any _ _ _ _ (by decide)).mono ?_
  rintro e w' ⟨rfl, rfl⟩
  rw [getV_c1.1, getV_c1.2]
  go_wp2_with fail
  refine (put_any _ _ _ _ _ (by decide) (by decide) (by decide)).mono ?_
  rintro e w1 ⟨rfl, hb1⟩
  rw [putV_c1.1, putV_c1.2]
  go_wp2_with fail
  refine (put_any _ _ _ _ _ (by decide) (by decide) (by decide)).mono ?_
  rintro e w2 ⟨rfl, hb2⟩
  rw [putV_c2]
  go_wp2_with fail
  refine (get_any _ _ _ _ (by decide)).mono ?_
  rintro e w' ⟨rfl, rfl⟩
  rw [getV_c2]
  go_wp2_with fail
  go_ret
  exact ⟨rfl, hb1.trans (below_le hb2 hb1.size)⟩
end Go.Proofs.Ytmljampbajjmlaa
