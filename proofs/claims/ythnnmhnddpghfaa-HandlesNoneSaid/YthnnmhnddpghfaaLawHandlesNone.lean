/- For every input the law glissadelaw21.HandlesNone returns true. -/
import Derived.BigQuiet
import Derived.Deep.QuietTactic
import Derived.Deep.RegionHeld3
import Derived.Test.YthnnmhnddpghfaaHanAlive
import Derived.Test.YthnnmhnddpghfaaHanNone
import Derived.Test.YthnnmhnddpghfaaFrame
set_option linter.unusedVariables false
set_option linter.unusedSimpArgs false
set_option maxRecDepth 100000
namespace Go.Proofs.Ythnnmhnddpghfaa
open Go.RowKit Go.Joins

set_option maxHeartbeats 16000000 in
theorem walk_handlesNone (w : World) (fd : Int) (f0 : -9223372036854775808 ≤ fd) (f1 : fd ≤ 9223372036854775807) (n : Int) (n0 : -9223372036854775808 ≤ n) (n1 : n ≤ 9223372036854775807) :
    Calls Try.prog 7 #[.int .i64 fd, .int .i64 n] w fun e w' => e = .returned (.bool true) ∧ Below w.heap.size w w' := by
  go_enter Try.func7, Try.ntmps7
  go_wp2_with fail
  go_loopw [5, 6] (fun pp jj wr => ∃ (k : Nat) (p : Option Addr), k ≤ 2 ∧ jj = .int .i64 k ∧ pp = .pointer p ∧ NoneAt p wr ∧ Below w.heap.size w wr) (fun _ jj _ => 2 - (intOf jj).toNat)
  case atStart => exact ⟨0, none, by omega, rfl, rfl, noneAt_nil _, Below.refl _ _⟩
  case round =>
    obtain ⟨k, p, hk, rfl, rfl, hN, B⟩ := hrel
    by_cases hlt : k < 2
    · have h1 : (k : Int) < 2 := by omega
      have HN := Lib.hid hN
      clear hN
      go_wp2_with fail
      refine (nopen p n _ HN.out).mono ?_
      rintro e w1 ⟨rfl, hb⟩
      have N1 := HN.out.below hb
      have B1 := below_chain B hb B.size
      clear hb B HN
      go_wp2_with fail
      refine (nget p fd _ N1).mono ?_
      rintro e w2 ⟨rfl, hb⟩
      have N2 := N1.below hb
      have B2 := below_chain B1 hb B1.size
      clear hb B1 N1
      go_wp2_with fail
      refine (nclose p fd _ N2).mono ?_
      rintro e w3 ⟨rfl, hb⟩
      have N3 := N2.below hb
      have B3 := below_chain B2 hb B2.size
      clear hb B2 N2
      go_wp2_with fail
      refine (nseek p fd n _ N3).mono ?_
      rintro e w4 ⟨rfl, hb⟩
      have N4 := N3.below hb
      have B4 := below_chain B3 hb B3.size
      clear hb B3 N3
      go_wp2_with fail
      refine (nhas p n _ N4).mono ?_
      rintro e w5 ⟨rfl, hb⟩
      have N5 := N4.below hb
      have B5 := below_chain B4 hb B4.size
      clear hb B4 N4
      go_wp2_with fail
      refine (nfull p _ N5).mono ?_
      rintro e w6 ⟨rfl, hb⟩
      have N6 := N5.below hb
      have B6 := below_chain B5 hb B5.size
      clear hb B5 N5
      go_wp2_with fail
      refine (nnodes p _ N6).mono ?_
      rintro e w7 ⟨rfl, hb⟩
      have N7 := N6.below hb
      have B7 := below_chain B6 hb B6.size
      clear hb B6 N6
      go_wp2_with fail
      refine (nclone p _ N7).mono ?_
      rintro e w8 ⟨rfl, hb⟩
      have B8 := below_chain B7 hb B7.size
      clear hb B7 N7
      have HT : Hid (TabAt (w8.alloc (.cells (tcells false zeroT).toArray 54)) w8.heap.size false zeroT) := ⟨rfl, rowAt_alloc w8 (tcells false zeroT).toArray 54⟩
      have B9 := B8.alloc B8.size (.cells (tcells false zeroT).toArray 54)
      go_wp2_with fail
      go_roundw
      case rel => exact ⟨k + 1, _, by omega, by go_num, rfl, noneAt_row HT.out, B9⟩
      case measure => simp [intOf]; omega
    · obtain rfl : k = 2 := by omega
      clear hN
      go_wp2_with fail
      refine (lives21 _).mono ?_
      rintro e w2 ⟨rfl, hb⟩
      have B2 := below_chain B hb B.size
      go_wp2_with fail
      go_ret
      exact ⟨rfl, B2⟩

/-! ### the frame (printed by mklaw.py) -/

set_option maxRecDepth 100000 in
theorem lifted_handlesNone (os : Os) (started : os.Started) (H : Type) (enc : TypeId × Value → H) :
    ReturnsInHanded {} Try.checked os 7 .any (Rows.handlesNoneSpec.pre6 enc Try.prog Try.f7 Rows.handlesNoneRow.domain false) (Rows.handlesNoneSpec.post enc Try.prog Try.f7 false true false false) := by
  refine law_step (C := Try.checked) (tb := 4) (by kernel_rfl) (by kernel_rfl) started (by kernel_rfl) Try.func7 rfl Try.underlying4 rfl ?_ ?_
    (ChangeSpec.witness6 (enc := enc) (C := Try.checked) false ⟨#[], #[.int .i64 0, .int .i64 0], []⟩ 8 (by kernel_rfl) (by kernel_rfl) (by kernel_rfl) (by kernel_rfl)) ?_
  · intro ds hl
    match ds, hl with
    | [d0, d1], _ => rfl
  · intro t ht
    rw [show Try.f7.params.toList = [3, 3] from by rw [Try.params7]] at ht
    simp only [List.mem_cons, List.not_mem_nil, or_false] at ht
    rcases ht with rfl | rfl
    · exact ⟨by kernel_rfl, of_decide_eq_true (by kernel_rfl)⟩
    · exact ⟨by kernel_rfl, of_decide_eq_true (by kernel_rfl)⟩
  · intro W args hG
    rw [show Try.f7.params.toList = [3, 3] from by rw [Try.params7]] at hG
    obtain ⟨v0, v1, rfl, g0, g1⟩ := gotAll_args2 hG
    obtain ⟨a0, rfl, b0, c0⟩ := got_i64 Try.underlying3 g0
    obtain ⟨a1, rfl, b1, c1⟩ := got_i64 Try.underlying3 g1
    exact walk_handlesNone W a0 b0 c0 a1 b1 c1

theorem handlesNone_over : Rows.handlesNoneRow.holds Try.pinned (OpenSpec.ofChange Rows.handlesNoneSpec) :=
  OpenClaim.holds_of_wide 7 Try.f7 rfl rfl rfl rfl rfl rfl rfl ⟨rfl, rfl, rfl, rfl, rfl⟩ rfl rfl rfl rfl rfl (by kernel_rfl) Try.func7 (by kernel_rfl)
    (of_decide_eq_true (by kernel_rfl)) (by unfold Func.isWrapper; first | (rw [if_pos (by decide +kernel)]; kernel_rfl) | (rw [if_neg (by decide +kernel)]; exact ⟨rfl, rfl⟩))
    (fun os started H enc _ => lifted_handlesNone os started H enc)

theorem handlesNone_holds : Rows.HandlesNoneSaid := handlesNone_over
#print axioms handlesNone_holds

end Go.Proofs.Ythnnmhnddpghfaa
