/- For every input the law glissadelaw08.RecordsMask returns true. -/
import Derived.Test.YtfgnemddamebaaaRecAlive
import Derived.Test.YtfgnemddamebaaaRecMaskR
import Derived.Test.YtfgnemddamebaaaFrame
set_option linter.unusedVariables false
set_option linter.unusedSimpArgs false
set_option maxRecDepth 100000
namespace Go.Proofs.Ytfgnemddamebaaa
open Go.RowKit Go.Joins

set_option maxHeartbeats 1000000 in
theorem recMask_core (w : World) (s R U : ByteArray) (b : Bool)
    (HM : Hid (∀ W, Calls Try.prog 17 #[.string s] W fun e w' => e = .returned (.tuple #[.string R, .bool b]) ∧ W = w'))
    (HR : Hid (∀ W, Calls Try.prog 18 #[.string s] W fun e w' => e = .returned (.tuple #[.string R, .bool b]) ∧ W = w'))
    (HU : Hid (∀ W, Calls Try.prog 19 #[.string s] W fun e w' => e = .returned (.string U) ∧ W = w'))
    (HV : Hid (∀ W, Calls Try.prog 20 #[.string s] W fun e w' => e = .returned (.string U) ∧ W = w')) :
    Calls Try.prog 5 #[.string s] w fun e w' => e = .returned (.bool true) ∧ Below w.heap.size w w' := by
  have t1 : (R.toList == R.toList) = true := by simp
  have t2 : (U.toList == U.toList) = true := by simp
  have t3 : (b == b) = true := by simp
  go_enter Try.func5, Try.ntmps5
  go_wp2_with fail
  refine (HM.out _).mono ?_
  rintro e w1 ⟨rfl, rfl⟩
  go_wp2_with fail
  refine (HR.out _).mono ?_
  rintro e w1 ⟨rfl, rfl⟩
  go_wp2_with fail
  refine (HU.out _).mono ?_
  rintro e w1 ⟨rfl, rfl⟩
  go_wp2_with fail
  refine (HV.out _).mono ?_
  rintro e w1 ⟨rfl, rfl⟩
  go_wp2_with fail
  refine (alive08 _).mono ?_
  rintro e w1 ⟨rfl, hb⟩
  go_wp2_with fail
  go_ret
  exact ⟨rfl, hb⟩

theorem walk_recordsMask (w : World) (s : ByteArray) (hs0 : s.size ≤ 140737488351232) :
    Calls Try.prog 5 #[.string s] w fun e w' => e = .returned (.bool true) ∧ Below w.heap.size w w' := by
  have hs := size_le_maxLen hs0
  by_cases h4 : 4 ≤ s.size
  · cases hm : magic s with
    | true => exact recMask_core w s _ _ _ (Lib.hid fun W => mask_yes s W hs hm) (Lib.hid fun W => rmask_yes s W hs hm) (Lib.hid fun W => unmask_yes s W hs h4) (Lib.hid fun W => runmask_yes s W hs h4)
    | false => exact recMask_core w s _ _ _ (Lib.hid fun W => mask_no s W hm) (Lib.hid fun W => rmask_no s W hs hm) (Lib.hid fun W => unmask_yes s W hs h4) (Lib.hid fun W => runmask_yes s W hs h4)
  · have hm : magic s = false := Bool.eq_false_iff.2 fun q => h4 ((magic_iff s).1 q).1
    exact recMask_core w s _ _ _ (Lib.hid fun W => mask_no s W hm) (Lib.hid fun W => rmask_no s W hs hm) (Lib.hid fun W => unmask_no s W (by omega)) (Lib.hid fun W => runmask_no s W (by omega))

/-! ### the frame (printed by mklaw.py) -/

set_option maxRecDepth 100000 in
theorem lifted_recordsMask (os : Os) (started : os.Started) (H : Type) (enc : TypeId × Value → H) :
    ReturnsInHanded {} Try.checked os 5 .any (Rows.recordsMaskSpec.pre6 enc Try.prog Try.f5 Rows.recordsMaskRow.domain false) (Rows.recordsMaskSpec.post enc Try.prog Try.f5 false true false false) := by
  refine law_step (C := Try.checked) (tb := 4) (by kernel_rfl) (by kernel_rfl) started (by kernel_rfl) Try.func5 rfl Try.underlying4 rfl ?_ ?_
    (ChangeSpec.witness6 (enc := enc) (C := Try.checked) false ⟨#[], #[.string ByteArray.empty], []⟩ 8 (by kernel_rfl) (by kernel_rfl) (by kernel_rfl) (by kernel_rfl)) ?_
  · intro ds hl
    match ds, hl with
    | [d0], _ => rfl
  · intro t ht
    rw [show Try.f5.params.toList = [9] from by rw [Try.params5]] at ht
    simp only [List.mem_cons, List.not_mem_nil, or_false] at ht
    rcases ht with rfl
    · exact ⟨by kernel_rfl, of_decide_eq_true (by kernel_rfl)⟩
  · intro W args hG
    rw [show Try.f5.params.toList = [9] from by rw [Try.params5]] at hG
    obtain ⟨v0, rfl, g0⟩ := gotAll_args1 hG
    obtain ⟨a0, rfl, b0⟩ := got_string Try.underlying9 g0
    exact walk_recordsMask W a0 b0

theorem recordsMask_over : Rows.recordsMaskRow.holds Try.pinned (OpenSpec.ofChange Rows.recordsMaskSpec) :=
  OpenClaim.holds_of_wide 5 Try.f5 rfl rfl rfl rfl rfl rfl rfl ⟨rfl, rfl, rfl, rfl, rfl⟩ rfl rfl rfl rfl rfl (by kernel_rfl) Try.func5 (by kernel_rfl)
    (of_decide_eq_true (by kernel_rfl)) (by unfold Func.isWrapper; first | (rw [if_pos (by decide +kernel)]; kernel_rfl) | (rw [if_neg (by decide +kernel)]; exact ⟨rfl, rfl⟩))
    (fun os started H enc _ => lifted_recordsMask os started H enc)

theorem recordsMask_holds : Rows.RecordsMaskSaid := recordsMask_over
#print axioms recordsMask_holds

end Go.Proofs.Ytfgnemddamebaaa
