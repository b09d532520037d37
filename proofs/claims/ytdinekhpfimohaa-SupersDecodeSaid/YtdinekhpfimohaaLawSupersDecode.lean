/- For every input the law glissadelaw10.SupersDecode returns true. -/
import Derived.Deep.RegionHeld3
import Derived.Test.YtdinekhpfimohaaSupersAlive
import Derived.Test.YtdinekhpfimohaaFrame
set_option linter.unusedVariables false
set_option linter.unusedSimpArgs false
set_option maxRecDepth 100000
namespace Go.Proofs.Ytdinekhpfimohaa
open Go.RowKit Go.Joins

set_option maxHeartbeats 1000000 in
theorem supDec_core (w : World) (s : ByteArray) (d0 d1 d2 d3 d4 d5 d6 d7 d8 d9 : Int) (e0 : Int)
    (HC1 : RowKit.Hid (∀ W, Calls Try.prog 20 #[.string s] W fun e w' => e = .returned (.tuple #[sv d0 d1 d2 d3 d4 d5 d6 d7 d8 d9, .int .i64 e0]) ∧ Below W.heap.size W w'))
    (HC2 : RowKit.Hid (∀ W, Calls Try.prog 21 #[.string s] W fun e w' => e = .returned (.tuple #[sv d0 d1 d2 d3 d4 d5 d6 d7 d8 d9, .int .i64 e0]) ∧ Below W.heap.size W w')) :
    Calls Try.prog 4 #[.string s] w fun e w' => e = .returned (.bool true) ∧ Below w.heap.size w w' := by
  go_enter Try.func4, Try.ntmps4
  go_wp2_with fail
  refine (HC1.out _).mono ?_
  rintro e w1 ⟨rfl, B1⟩
  have B1a := B1.alloc B1.size (.cells #[.int .i64 d0, .int .i64 d1, .int .i64 d2, .int .i64 d3, .int .i64 d4, .int .i64 d5, .int .i64 d6, .int .i64 d7, .int .i64 d8, .int .i64 d9] 23)
  have hr1 := rowAt_alloc w1 #[.int .i64 d0, .int .i64 d1, .int .i64 d2, .int .i64 d3, .int .i64 d4, .int .i64 d5, .int .i64 d6, .int .i64 d7, .int .i64 d8, .int .i64 d9] 23
  go_wp2_with fail
  refine (HC2.out _).mono ?_
  rintro e w2 ⟨rfl, hb2⟩
  have B2 := below_chain B1a hb2 B1a.size
  have hr2 := hr1.below hb2 hr1.lt
  have hl2 := hr2.lt
  obtain ⟨c0, c1, c2, c3, c4, c5, c6, c7, c8, c9⟩ := sup_cells hr2
  go_wp2_with fail
  refine (alive10 _).mono ?_
  rintro e w3 ⟨rfl, hb3⟩
  have B3 := below_chain (B2.alloc B2.size _) hb3 (B2.alloc B2.size _).size
  go_wp2_with fail
  go_ret
  exact ⟨rfl, B3⟩

theorem walk_supersDecode (w : World) (s : ByteArray) (hs0 : s.size ≤ 140737488351232) :
    Calls Try.prog 4 #[.string s] w fun e w' => e = .returned (.bool true) ∧ Below w.heap.size w w' := by
  have hs := size_le_maxLen hs0
  by_cases h : decOk s = true
  · exact supDec_core w s _ _ _ _ _ _ _ _ _ _ 0 (Lib.hid (fun W => dec_yes s W hs h)) (Lib.hid (fun W => rdec_yes s W hs h))
  · exact supDec_core w s _ _ _ _ _ _ _ _ _ _ 80 (Lib.hid (fun W => dec_no s W hs (by simpa using h))) (Lib.hid (fun W => rdec_no s W hs (by simpa using h)))

/-! ### the frame (printed by mklaw.py) -/

set_option maxRecDepth 100000 in
theorem lifted_supersDecode (os : Os) (started : os.Started) (H : Type) (enc : TypeId × Value → H) :
    ReturnsInHanded {} Try.checked os 4 .any (Rows.supersDecodeSpec.pre6 enc Try.prog Try.f4 Rows.supersDecodeRow.domain false) (Rows.supersDecodeSpec.post enc Try.prog Try.f4 false true false false) := by
  refine law_step (C := Try.checked) (tb := 4) (by kernel_rfl) (by kernel_rfl) started (by kernel_rfl) Try.func4 rfl Try.underlying4 rfl ?_ ?_
    (ChangeSpec.witness6 (enc := enc) (C := Try.checked) false ⟨#[], #[.string ByteArray.empty], []⟩ 8 (by kernel_rfl) (by kernel_rfl) (by kernel_rfl) (by kernel_rfl)) ?_
  · intro ds hl
    match ds, hl with
    | [d0], _ => rfl
  · intro t ht
    rw [show Try.f4.params.toList = [9] from by rw [Try.params4]] at ht
    simp only [List.mem_cons, List.not_mem_nil, or_false] at ht
    rcases ht with rfl
    · exact ⟨by kernel_rfl, of_decide_eq_true (by kernel_rfl)⟩
  · intro W args hG
    rw [show Try.f4.params.toList = [9] from by rw [Try.params4]] at hG
    obtain ⟨v0, rfl, g0⟩ := gotAll_args1 hG
    obtain ⟨a0, rfl, b0⟩ := got_string Try.underlying9 g0
    exact walk_supersDecode W a0 b0

theorem supersDecode_over : Rows.supersDecodeRow.holds Try.pinned (OpenSpec.ofChange Rows.supersDecodeSpec) :=
  OpenClaim.holds_of_wide 4 Try.f4 rfl rfl rfl rfl rfl rfl rfl ⟨rfl, rfl, rfl, rfl, rfl⟩ rfl rfl rfl rfl rfl (by kernel_rfl) Try.func4 (by kernel_rfl)
    (of_decide_eq_true (by kernel_rfl)) (by unfold Func.isWrapper; first | (rw [if_pos (by decide +kernel)]; kernel_rfl) | (rw [if_neg (by decide +kernel)]; exact ⟨rfl, rfl⟩))
    (fun os started H enc _ => lifted_supersDecode os started H enc)

theorem supersDecode_holds : Rows.SupersDecodeSaid := supersDecode_over
#print axioms supersDecode_holds

end Go.Proofs.Ytdinekhpfimohaa
