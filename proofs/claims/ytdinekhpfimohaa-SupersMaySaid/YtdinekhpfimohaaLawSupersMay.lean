/- For every input the law glissadelaw10.SupersMay returns true. -/
import Derived.Deep.RegionHeld3
import Derived.Test.YtdinekhpfimohaaSupersAlive
import Derived.Test.YtdinekhpfimohaaFrame
set_option linter.unusedVariables false
set_option linter.unusedSimpArgs false
set_option maxRecDepth 100000
namespace Go.Proofs.Ytdinekhpfimohaa
open Go.RowKit Go.Joins

set_option maxHeartbeats 2000000 in
theorem supMay_core (w : World) (b l m c : Int) (g0 g1 g2 g3 g4 g5 g6 g7 g8 e0 : Int) (ck : Bool)
    (HC1 : RowKit.Hid (∀ W, Calls Try.prog 22 #[.int .i64 b, .int .i64 l, .int .i64 m] W fun e w' => e = .returned (.tuple #[gv g0 g1 g2 g3 g4 g5 g6 g7 g8, .int .i64 e0]) ∧ Below W.heap.size W w'))
    (HC3 : RowKit.Hid (∀ W, Calls Try.prog 17 #[sv b l m c 0 0 0 0 0 0] W fun e w' => e = .returned (.bool ck) ∧ Below W.heap.size W w'))
    (hc : (ck = true ∧ e0 = 0 ∧ 0 ≤ c ∧ c ≤ b) ∨ (ck = false ∧ e0 = 2) ∨ (ck = false ∧ e0 = 0 ∧ c < 0) ∨ (ck = false ∧ e0 = 0 ∧ 0 ≤ c ∧ ¬ c ≤ b)) :
    Calls Try.prog 6 #[.agg #[.int .i64 b, .int .i64 l, .int .i64 m], .int .i64 c] w fun e w' => e = .returned (.bool true) ∧ Below w.heap.size w w' := by
  rcases hc with ⟨rfl, rfl, k1, k2⟩ | ⟨rfl, rfl⟩ | ⟨rfl, rfl, k1⟩ | ⟨rfl, rfl, k1, k2⟩ <;>
  · go_enter Try.func6, Try.ntmps6
    go_wp2_with fail
    refine (HC1.out _).mono ?_
    rintro e w1 ⟨rfl, hb1⟩
    have B0 := (Below.refl w.heap.size w).alloc (Nat.le_refl _) (.cells #[.int .i64 b, .int .i64 l, .int .i64 m] 34)
    have B1 := below_chain B0 hb1 B0.size
    have hr1 := (rowAt_alloc w #[.int .i64 b, .int .i64 l, .int .i64 m] 34).below hb1 (rowAt_alloc w _ _).lt
    have hl1 := hr1.lt
    have c0 := hr1.cell 0 (by simp)
    have c1 := hr1.cell 1 (by simp)
    have c2 := hr1.cell 2 (by simp)
    try simp only [List.getElem_cons_zero, List.getElem_cons_succ] at c0 c1 c2
    go_wp2_with fail
    refine (HC3.out _).mono ?_
    rintro e w2 ⟨rfl, hb2⟩
    have B1a := B1.alloc B1.size (.cells #[.int .i64 g0, .int .i64 g1, .int .i64 g2, .int .i64 g3, .int .i64 g4, .int .i64 g5, .int .i64 g6, .int .i64 g7, .int .i64 g8] 36)
    have B1b := B1a.alloc B1a.size (.cells #[.int .i64 b, .int .i64 l, .int .i64 m, .int .i64 c, .int .i64 0, .int .i64 0, .int .i64 0, .int .i64 0, .int .i64 0, .int .i64 0] 23)
    have B2 := below_chain B1b hb2 B1b.size
    have hr1b := (hr1.alloc (.cells #[.int .i64 g0, .int .i64 g1, .int .i64 g2, .int .i64 g3, .int .i64 g4, .int .i64 g5, .int .i64 g6, .int .i64 g7, .int .i64 g8] 36)).alloc (.cells #[.int .i64 b, .int .i64 l, .int .i64 m, .int .i64 c, .int .i64 0, .int .i64 0, .int .i64 0, .int .i64 0, .int .i64 0, .int .i64 0] 23)
    have hr2 := hr1b.below hb2 hr1b.lt
    clear c0 c1 c2
    have hl2 := hr2.lt
    have c0 := hr2.cell 0 (by simp)
    have c1 := hr2.cell 1 (by simp)
    have c2 := hr2.cell 2 (by simp)
    try simp only [List.getElem_cons_zero, List.getElem_cons_succ] at c0 c1 c2
    go_wp2_with fail
    refine (alive10 _).mono ?_
    rintro e w3 ⟨rfl, hb3⟩
    have B3 := below_chain B2 hb3 B2.size
    go_wp2_with fail
    go_ret
    exact ⟨by first | rfl | simp [k2], B3⟩

theorem walk_supersMay (w : World) (b l m : Int) (_ : ∀ z ∈ [b, l, m], -9223372036854775808 ≤ z ∧ z ≤ 9223372036854775807) (c : Int) (_ : -9223372036854775808 ≤ c) (_ : c ≤ 9223372036854775807) :
    Calls Try.prog 6 #[.agg #[.int .i64 b, .int .i64 l, .int .i64 m], .int .i64 c] w fun e w' => e = .returned (.bool true) ∧ Below w.heap.size w w' := by
  by_cases h : geoOk b l m = true
  · refine supMay_core w b l m c _ _ _ _ _ _ _ _ _ 0 _ (Lib.hid (fun W => of_yes b l m W h)) (Lib.hid (check_any b l m c 0 0 0 0 0 0)) ?_
    have hs : stillB 0 0 0 0 0 0 = true := by decide
    by_cases k1 : 0 ≤ c
    · by_cases k2 : c ≤ b
      · exact .inl ⟨superOk_iff.2 ⟨h, k1, k2, .inl hs⟩, rfl, k1, k2⟩
      · exact .inr (.inr (.inr ⟨Bool.eq_false_iff.2 (fun q => k2 (superOk_iff.1 q).2.2.1), rfl, k1, k2⟩))
    · exact .inr (.inr (.inl ⟨Bool.eq_false_iff.2 (fun q => k1 (superOk_iff.1 q).2.1), rfl, by omega⟩))
  · refine supMay_core w b l m c _ _ _ _ _ _ _ _ _ 2 _ (Lib.hid (fun W => of_no b l m W (by simpa using h))) (Lib.hid (check_any b l m c 0 0 0 0 0 0)) ?_
    exact .inr (.inl ⟨Bool.eq_false_iff.2 (fun q => h (superOk_iff.1 q).1), rfl⟩)

/-! ### the frame (printed by mklaw.py) -/

set_option maxRecDepth 100000 in
theorem lifted_supersMay (os : Os) (started : os.Started) (H : Type) (enc : TypeId × Value → H) :
    ReturnsInHanded {} Try.checked os 6 .any (Rows.supersMaySpec.pre6 enc Try.prog Try.f6 Rows.supersMayRow.domain false) (Rows.supersMaySpec.post enc Try.prog Try.f6 false true false false) := by
  refine law_step (C := Try.checked) (tb := 4) (by kernel_rfl) (by kernel_rfl) started (by kernel_rfl) Try.func6 rfl Try.underlying4 rfl ?_ ?_
    (ChangeSpec.witness6 (enc := enc) (C := Try.checked) false ⟨#[], #[.agg #[.int .i64 0, .int .i64 0, .int .i64 0], .int .i64 0], []⟩ 8 (by kernel_rfl) (by kernel_rfl) (by kernel_rfl) (by kernel_rfl)) ?_
  · intro ds hl
    match ds, hl with
    | [d0, d1], _ => rfl
  · intro t ht
    rw [show Try.f6.params.toList = [34, 3] from by rw [Try.params6]] at ht
    simp only [List.mem_cons, List.not_mem_nil, or_false] at ht
    rcases ht with rfl | rfl
    · exact ⟨by kernel_rfl, of_decide_eq_true (by kernel_rfl)⟩
    · exact ⟨by kernel_rfl, of_decide_eq_true (by kernel_rfl)⟩
  · intro W args hG
    rw [show Try.f6.params.toList = [34, 3] from by rw [Try.params6]] at hG
    obtain ⟨v0, v1, rfl, g0, g1⟩ := gotAll_args2 hG
    obtain ⟨zs0, rfl, zl0, zh0⟩ := got_flat (k := .i64) (n := 3) (by kernel_rfl) g0
    obtain ⟨z0_0, z0_1, z0_2, rfl⟩ : ∃ z0_0 z0_1 z0_2, zs0 = [z0_0, z0_1, z0_2] := by
      match zs0, zl0 with
      | [z0_0, z0_1, z0_2], _ => exact ⟨z0_0, z0_1, z0_2, rfl⟩
    obtain ⟨a1, rfl, b1, c1⟩ := got_i64 Try.underlying3 g1
    exact walk_supersMay W z0_0 z0_1 z0_2 (fun z hz => has_i64 (zh0 z hz)) a1 b1 c1

theorem supersMay_over : Rows.supersMayRow.holds Try.pinned (OpenSpec.ofChange Rows.supersMaySpec) :=
  OpenClaim.holds_of_wide 6 Try.f6 rfl rfl rfl rfl rfl rfl rfl ⟨rfl, rfl, rfl, rfl, rfl⟩ rfl rfl rfl rfl rfl (by kernel_rfl) Try.func6 (by kernel_rfl)
    (of_decide_eq_true (by kernel_rfl)) (by unfold Func.isWrapper; first | (rw [if_pos (by decide +kernel)]; kernel_rfl) | (rw [if_neg (by decide +kernel)]; exact ⟨rfl, rfl⟩))
    (fun os started H enc _ => lifted_supersMay os started H enc)

theorem supersMay_holds : Rows.SupersMaySaid := supersMay_over
#print axioms supersMay_holds

end Go.Proofs.Ytdinekhpfimohaa
