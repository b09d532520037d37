/- For every input the law glissadelaw08.RecordsEncode returns true. -/
import Derived.Test.YtfgnemddamebaaaRecEnc
import Derived.Test.YtfgnemddamebaaaRecAlive
import Derived.Test.YtfgnemddamebaaaRecSame
import Derived.Test.YtfgnemddamebaaaRecRef4
import Derived.Test.YtfgnemddamebaaaFrame
set_option linter.unusedVariables false
set_option linter.unusedSimpArgs false
set_option maxRecDepth 100000
namespace Go.Proofs.Ytfgnemddamebaaa
open Go.RowKit Go.Joins

set_option maxHeartbeats 2000000 in
theorem recEnc_great (w : World) (k q t : Int) (ah am : Option Addr) (n ch m cm : Nat) (u : Int) (h : (1000 : Int) < (n : Int) ∨ (n : Int) ≤ 1000 ∧ (1000 : Int) < (m : Int)) :
    Calls Try.prog 3 #[rv k q t ah n ch am m cm u] w fun e w' => e = .returned (.bool true) ∧ Below w.heap.size w w' := by
  have Y : Below w.heap.size w (w.alloc (.cells (rcells k q t ah n ch am m cm u) 27)) := by go_grown
  rcases h with h | ⟨h1, h2⟩
  all_goals
    go_enter Try.func3, Try.ntmps3
    go_wp2_with fail
    go_ret
    exact ⟨rfl, Y⟩

theorem walk_recordsEncode (w : World) (x : Rc) (ah : Option Addr) (ch : Nat) (am : Option Addr) (cm : Nat) (hf : x.fit) (hr : RcR x ah ch am cm) (hS : RcS w x ah am) :
    Calls Try.prog 3 #[rcV x ah ch am cm] w fun e w' => e = .returned (.bool true) ∧ Below w.heap.size w w' := by
  by_cases hn : x.hs.length ≤ 1000
  · by_cases hm : x.ms.length ≤ 1000
    · cases hok : x.ok with
      | true =>
        exact recEnc_core w x.k x.q x.at_ x.sum x.hs x.ms ah ch am cm hn hm hS.1 hS.2 hr.h3 hr.m3 hr.h1 hr.m1 _ _
          (Lib.hid fun W a b c d h1 h2 => recenc_yes x a b c d W hf ⟨h1, h2⟩ hok)
          (Lib.hid fun W a b c d h1 h2 => r8enc_yes x a b c d W hf ⟨h1, h2⟩ hok)
          (Lib.hid fun W a b c d a' b' c' d' h1 h2 h3 h4 => same8_yes x a a' b b' c c' d d' W (by omega) (by omega) ⟨h1, h2⟩ ⟨h3, h4⟩) (Lib.hid alive08)
      | false =>
        exact recEnc_core w x.k x.q x.at_ x.sum x.hs x.ms ah ch am cm hn hm hS.1 hS.2 hr.h3 hr.m3 hr.h1 hr.m1 _ _
          (Lib.hid fun W a b c d h1 h2 => recenc_no x a b c d W (by omega) (by omega) ⟨h1, h2⟩ hok)
          (Lib.hid fun W a b c d h1 h2 => r8enc_no x a b c d W (by omega) (by omega) ⟨h1, h2⟩ hok)
          (Lib.hid fun W a b c d a' b' c' d' h1 h2 h3 h4 => same8_yes x a a' b b' c c' d d' W (by omega) (by omega) ⟨h1, h2⟩ ⟨h3, h4⟩) (Lib.hid alive08)
    · exact recEnc_great w _ _ _ _ _ _ _ _ _ _ (.inr ⟨by omega, by omega⟩)
  · exact recEnc_great w _ _ _ _ _ _ _ _ _ _ (.inl (by omega))

/-! ### the frame (printed by mklaw.py) -/

set_option maxRecDepth 100000 in
theorem lifted_recordsEncode (os : Os) (started : os.Started) (H : Type) (enc : TypeId × Value → H) :
    ReturnsInHanded {} Try.checked os 3 .any (Rows.recordsEncodeSpec.pre6 enc Try.prog Try.f3 Rows.recordsEncodeRow.domain false) (Rows.recordsEncodeSpec.post enc Try.prog Try.f3 false true false false) := by
  refine law_step (C := Try.checked) (tb := 4) (by kernel_rfl) (by kernel_rfl) started (by kernel_rfl) Try.func3 rfl Try.underlying4 rfl ?_ ?_
    (ChangeSpec.witness6 (enc := enc) (C := Try.checked) false ⟨#[], #[.agg #[.int .i64 0, .int .u64 0, .int .i64 0, .slice none 0 0, .slice none 0 0, .int .u32 0]], []⟩ 8 (by kernel_rfl) (by kernel_rfl) (by kernel_rfl) (by kernel_rfl)) ?_
  · intro ds hl
    match ds, hl with
    | [d0], _ => rfl
  · intro t ht
    rw [show Try.f3.params.toList = [27] from by rw [Try.params3]] at ht
    simp only [List.mem_cons, List.not_mem_nil, or_false] at ht
    rcases ht with rfl
    · exact ⟨by kernel_rfl, of_decide_eq_true (by kernel_rfl)⟩
  · intro W args hG
    rw [show Try.f3.params.toList = [27] from by rw [Try.params3]] at hG
    obtain ⟨v0, rfl, g0⟩ := gotAll_args1 hG
    obtain ⟨x0, ah0, ch0, am0, cm0, rfl, hf0, hr0, hs0⟩ := got_rec g0
    exact walk_recordsEncode W x0 ah0 ch0 am0 cm0 hf0 hr0 hs0

theorem recordsEncode_over : Rows.recordsEncodeRow.holds Try.pinned (OpenSpec.ofChange Rows.recordsEncodeSpec) :=
  OpenClaim.holds_of_wide 3 Try.f3 rfl rfl rfl rfl rfl rfl rfl ⟨rfl, rfl, rfl, rfl, rfl⟩ rfl rfl rfl rfl rfl (by kernel_rfl) Try.func3 (by kernel_rfl)
    (of_decide_eq_true (by kernel_rfl)) (by unfold Func.isWrapper; first | (rw [if_pos (by decide +kernel)]; kernel_rfl) | (rw [if_neg (by decide +kernel)]; exact ⟨rfl, rfl⟩))
    (fun os started H enc _ => lifted_recordsEncode os started H enc)

theorem recordsEncode_holds : Rows.RecordsEncodeSaid := recordsEncode_over
#print axioms recordsEncode_holds

end Go.Proofs.Ytfgnemddamebaaa
