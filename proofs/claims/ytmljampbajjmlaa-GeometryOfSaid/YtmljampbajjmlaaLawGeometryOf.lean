/- For every input the law glissadelaw05.GeometryOf returns true. -/
import Derived.Test.YtmljampbajjmlaaGeoAlive
import Derived.Test.YtmljampbajjmlaaFrame
set_option linter.unusedVariables false
set_option linter.unusedSimpArgs false
namespace Go.Proofs.Ytmljampbajjmlaa
open Go.RowKit Go.Joins

set_option maxHeartbeats 1000000 in
theorem geoOf_yes (w : World) (b l m : Int) (h : geoOk b l m = true) :
    Calls Try.prog 10 #[.int .i64 b, .int .i64 l, .int .i64 m] w fun e w' => e = .returned (.bool true) ∧ Below w.heap.size w w' := by
  have HC1 := Lib.hid (fun W => of_yes b l m W h)
  have HC2 := Lib.hid (fun W => rof_yes b l m W h)
  clear h
  go_enter Try.func10, Try.ntmps10
  go_wp2_with fail
  refine (HC1.out _).mono ?_
  rintro e w1 ⟨rfl, B1⟩
  go_wp2_with fail
  refine (HC2.out _).mono ?_
  rintro e w2 ⟨rfl, hb2⟩
  have B2 := below_chain (B1.alloc B1.size _) hb2 (B1.alloc B1.size _).size
  have hr := (rowAt_alloc w1 #[.int .i64 b, .int .i64 l, .int .i64 m, .int .i64 1, .int .i64 (1 + l), .int .i64 (gMap b), .int .i64 (1 + l + gMap b), .int .i64 (m / 2), .int .i64 (gData b l m)] 42).below hb2 (by simp)
  have hl := hr.lt
  obtain ⟨c0, c1, c2, c3, c4, c5, c6, c7, c8⟩ := geo_cells hr
  go_wp2_with fail
  refine (alive05 _).mono ?_
  rintro e w3 ⟨rfl, hb3⟩
  have B3 := below_chain (B2.alloc B2.size _) hb3 (B2.alloc B2.size _).size
  go_wp2_with fail
  go_ret
  exact ⟨rfl, B3⟩

set_option maxHeartbeats 1000000 in
theorem geoOf_no (w : World) (b l m : Int) (h : geoOk b l m = false) :
    Calls Try.prog 10 #[.int .i64 b, .int .i64 l, .int .i64 m] w fun e w' => e = .returned (.bool true) ∧ Below w.heap.size w w' := by
  have HC1 := Lib.hid (fun W => of_no b l m W h)
  have HC2 := Lib.hid (fun W => rof_no b l m W h)
  clear h
  go_enter Try.func10, Try.ntmps10
  go_wp2_with fail
  refine (HC1.out _).mono ?_
  rintro e w1 ⟨rfl, B1⟩
  go_wp2_with fail
  refine (HC2.out _).mono ?_
  rintro e w2 ⟨rfl, hb2⟩
  have B2 := below_chain (B1.alloc B1.size _) hb2 (B1.alloc B1.size _).size
  have hr := (rowAt_alloc w1 #[.int .i64 0, .int .i64 0, .int .i64 0, .int .i64 0, .int .i64 0, .int .i64 0, .int .i64 0, .int .i64 0, .int .i64 0] 42).below hb2 (by simp)
  have hl := hr.lt
  obtain ⟨c0, c1, c2, c3, c4, c5, c6, c7, c8⟩ := geo_cells hr
  go_wp2_with fail
  refine (alive05 _).mono ?_
  rintro e w3 ⟨rfl, hb3⟩
  have B3 := below_chain (B2.alloc B2.size _) hb3 (B2.alloc B2.size _).size
  go_wp2_with fail
  go_ret
  exact ⟨rfl, B3⟩

theorem walk_geometryOf (w : World) (b : Int) (_ : -9223372036854775808 ≤ b) (_ : b ≤ 9223372036854775807) (l : Int) (_ : -9223372036854775808 ≤ l) (_ : l ≤ 9223372036854775807) (m : Int) (_ : -9223372036854775808 ≤ m) (_ : m ≤ 9223372036854775807) :
    Calls Try.prog 10 #[.int .i64 b, .int .i64 l, .int .i64 m] w fun e w' => e = .returned (.bool true) ∧ Below w.heap.size w w' := by
  by_cases h : geoOk b l m = true
  · exact geoOf_yes w b l m h
  · exact geoOf_no w b l m (by simpa using h)

/-! ### the frame (printed by mklaw.py) -/

set_option maxRecDepth 100000 in
theorem lifted_geometryOf (os : Os) (started : os.Started) (H : Type) (enc : TypeId × Value → H) :
    ReturnsInHanded {} Try.checked os 10 .any (Rows.geometryOfSpec.pre6 enc Try.prog Try.f10 Rows.geometryOfRow.domain false) (Rows.geometryOfSpec.post enc Try.prog Try.f10 false true false false) := by
  refine law_step (C := Try.checked) (tb := 4) (by kernel_rfl) (by kernel_rfl) started (by kernel_rfl) Try.func10 rfl Try.underlying4 rfl ?_ ?_
    (ChangeSpec.witness6 (enc := enc) (C := Try.checked) false ⟨#[], #[.int .i64 0, .int .i64 0, .int .i64 0], []⟩ 8 (by kernel_rfl) (by kernel_rfl) (by kernel_rfl) (by kernel_rfl)) ?_
  · intro ds hl
    match ds, hl with
    | [d0, d1, d2], _ => rfl
  · intro t ht
    rw [show Try.f10.params.toList = [3, 3, 3] from by rw [Try.params10]] at ht
    simp only [List.mem_cons, List.not_mem_nil, or_false] at ht
    rcases ht with rfl | rfl | rfl
    · exact ⟨by kernel_rfl, of_decide_eq_true (by kernel_rfl)⟩
    · exact ⟨by kernel_rfl, of_decide_eq_true (by kernel_rfl)⟩
    · exact ⟨by kernel_rfl, of_decide_eq_true (by kernel_rfl)⟩
  · intro W args hG
    rw [show Try.f10.params.toList = [3, 3, 3] from by rw [Try.params10]] at hG
    obtain ⟨v0, v1, v2, rfl, g0, g1, g2⟩ := gotAll_args3 hG
    obtain ⟨a0, rfl, b0, c0⟩ := got_i64 Try.underlying3 g0
    obtain ⟨a1, rfl, b1, c1⟩ := got_i64 Try.underlying3 g1
    obtain ⟨a2, rfl, b2, c2⟩ := got_i64 Try.underlying3 g2
    exact walk_geometryOf W a0 b0 c0 a1 b1 c1 a2 b2 c2

theorem geometryOf_over : Rows.geometryOfRow.holds Try.pinned (OpenSpec.ofChange Rows.geometryOfSpec) :=
  OpenClaim.holds_of_wide 10 Try.f10 rfl rfl rfl rfl rfl rfl rfl ⟨rfl, rfl, rfl, rfl, rfl⟩ rfl rfl rfl rfl rfl (by kernel_rfl) Try.func10 (by kernel_rfl)
    (of_decide_eq_true (by kernel_rfl)) (by unfold Func.isWrapper; first | (rw [if_pos (by decide +kernel)]; kernel_rfl) | (rw [if_neg (by decide +kernel)]; exact ⟨rfl, rfl⟩))
    (fun os started H enc _ => lifted_geometryOf os started H enc)

theorem geometryOf_holds : Rows.GeometryOfSaid := geometryOf_over
#print axioms geometryOf_holds

end Go.Proofs.Ytmljampbajjmlaa
