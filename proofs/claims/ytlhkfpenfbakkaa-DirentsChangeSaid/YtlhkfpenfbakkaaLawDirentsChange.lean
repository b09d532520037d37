/- For every input the law glissadelaw12.DirentsChange returns true; texts of at most 2000 bytes; else it returns true at once. -/
import Derived.BigQuiet
import Derived.Deep.QuietTactic
import Derived.Deep.RegionHeld3
import Derived.Test.YtlhkfpenfbakkaaDirRef3
import Derived.Test.YtlhkfpenfbakkaaDirLaw
import Derived.Test.YtlhkfpenfbakkaaGotDes
import Derived.Test.YtlhkfpenfbakkaaFrame
set_option linter.unusedVariables false
set_option linter.unusedSimpArgs false
set_option maxRecDepth 100000
namespace Go.Proofs.Ytlhkfpenfbakkaa
open Go.RowKit Go.Joins

set_option maxHeartbeats 8000000 in
theorem walk_direntsChange (w : World) (s : ByteArray) (hsz : s.size ≤ 140737488351232) (x : De) (hxn : x.nm.size ≤ maxLen) (hxi : i64B x.ino) (nm : ByteArray) (hnz : nm.size ≤ 140737488351232) :
    Calls Try.prog 5 #[.string s, x.agg, .string nm] w fun e w' => e = .returned (.bool true) ∧ Below w.heap.size w w' := by
  rw [agg_cells]
  have B0 : Below w.heap.size w (w.alloc (.cells #[.string x.nm, .int .i64 x.ino] 25)) := (Below.refl _ _).alloc (Nat.le_refl _) _
  clear hxn hxi hsz hnz
  by_cases h1 : 2000 < s.size
  · have h1' : (2000 : Int) < (s.size : Int) := by omega
    go_enter Try.func5, Try.ntmps5
    go_wp2_with fail
    go_ret
    exact ⟨rfl, B0⟩
  have h1' : ¬ (2000 : Int) < (s.size : Int) := by omega
  by_cases h2 : 2000 < nm.size
  · have h2' : (2000 : Int) < (nm.size : Int) := by omega
    go_enter Try.func5, Try.ntmps5
    go_wp2_with fail
    go_ret
    exact ⟨rfl, B0⟩
  have h2' : ¬ (2000 : Int) < (nm.size : Int) := by omega
  by_cases h3 : 2000 < x.nm.size
  · have h3' : (2000 : Int) < (x.nm.size : Int) := by omega
    go_enter Try.func5, Try.ntmps5
    go_wp2_with fail
    go_ret
    exact ⟨rfl, B0⟩
  have h3' : ¬ (2000 : Int) < (x.nm.size : Int) := by omega
  have HI1 := Lib.hid (fun W => insert_any s x W (by omega))
  have HI2 := Lib.hid (fun W => rinsert_any s x W (by omega))
  have HR1 := Lib.hid (fun W => remove_any s nm W (by omega))
  have HR2 := Lib.hid (fun W => rremove_any s nm W (by omega))
  rw [agg_cells] at HI1 HI2
  obtain ⟨n, i⟩ := x
  simp only at *
  clear h1 h2 h3
  generalize (insertP s ⟨n, i⟩).1 = t1 at *
  generalize (insertP s ⟨n, i⟩).2 = e1 at *
  generalize (removeP s nm).1 = t2 at *
  generalize (removeP s nm).2 = b2 at *
  go_enter Try.func5, Try.ntmps5
  go_wp2_with fail
  refine (HI1.out _).mono ?_
  rintro e w1 ⟨rfl, hb1⟩
  have B1 := below_chain B0 hb1 B0.size
  have d0 : w1.cell? ⟨w.heap.size, 0, none⟩ = some (.string n) := by rw [hb1.cell (p := ⟨w.heap.size, 0, none⟩) (by simp)]; exact World.cell?_alloc_new _ _ _ 0
  have d1 : w1.cell? ⟨w.heap.size, 1, none⟩ = some (.int .i64 i) := by rw [hb1.cell (p := ⟨w.heap.size, 1, none⟩) (by simp)]; exact World.cell?_alloc_new _ _ _ 1
  clear hb1 B0 HI1
  go_wp2_with fail
  refine (HI2.out _).mono ?_
  rintro e w2 ⟨rfl, hb2⟩
  have B2 := below_chain B1 hb2 B1.size
  clear hb2 B1 HI2 d0 d1
  go_wp2_with fail
  refine (HR1.out _).mono ?_
  rintro e w3 ⟨rfl, hb3⟩
  have B3 := below_chain B2 hb3 B2.size
  clear hb3 B2 HR1
  go_wp2_with fail
  refine (HR2.out _).mono ?_
  rintro e w4 ⟨rfl, hb4⟩
  have B4 := below_chain B3 hb4 B3.size
  clear hb4 B3 HR2
  go_wp2_with fail
  refine (alive12 _).mono ?_
  rintro e w7 ⟨rfl, hb7⟩
  have B7 := below_chain B4 hb7 B4.size
  go_wp2_with fail
  go_ret
  exact ⟨rfl, B7⟩

/-! ### the frame (printed by mklaw.py) -/

set_option maxRecDepth 100000 in
theorem lifted_direntsChange (os : Os) (started : os.Started) (H : Type) (enc : TypeId × Value → H) :
    ReturnsInHanded {} Try.checked os 5 .any (Rows.direntsChangeSpec.pre6 enc Try.prog Try.f5 Rows.direntsChangeRow.domain false) (Rows.direntsChangeSpec.post enc Try.prog Try.f5 false true false false) := by
  refine law_step (C := Try.checked) (tb := 4) (by kernel_rfl) (by kernel_rfl) started (by kernel_rfl) Try.func5 rfl Try.underlying4 rfl ?_ ?_
    (ChangeSpec.witness6 (enc := enc) (C := Try.checked) false ⟨#[], #[.string ByteArray.empty, .agg #[.string ByteArray.empty, .int .i64 0], .string ByteArray.empty], []⟩ 8 (by kernel_rfl) (by kernel_rfl) (by kernel_rfl) (by kernel_rfl)) ?_
  · intro ds hl
    match ds, hl with
    | [d0, d1, d2], _ => rfl
  · intro t ht
    rw [show Try.f5.params.toList = [9, 25, 9] from by rw [Try.params5]] at ht
    simp only [List.mem_cons, List.not_mem_nil, or_false] at ht
    rcases ht with rfl | rfl | rfl
    · exact ⟨by kernel_rfl, of_decide_eq_true (by kernel_rfl)⟩
    · exact ⟨by kernel_rfl, of_decide_eq_true (by kernel_rfl)⟩
    · exact ⟨by kernel_rfl, of_decide_eq_true (by kernel_rfl)⟩
  · intro W args hG
    rw [show Try.f5.params.toList = [9, 25, 9] from by rw [Try.params5]] at hG
    obtain ⟨v0, v1, v2, rfl, g0, g1, g2⟩ := gotAll_args3 hG
    obtain ⟨a0, rfl, b0⟩ := got_string Try.underlying9 g0
    obtain ⟨x1, rfl, hs1, hi1⟩ := got_de g1
    obtain ⟨a2, rfl, b2⟩ := got_string Try.underlying9 g2
    exact walk_direntsChange W a0 b0 x1 hs1 hi1 a2 b2

theorem direntsChange_over : Rows.direntsChangeRow.holds Try.pinned (OpenSpec.ofChange Rows.direntsChangeSpec) :=
  OpenClaim.holds_of_wide 5 Try.f5 rfl rfl rfl rfl rfl rfl rfl ⟨rfl, rfl, rfl, rfl, rfl⟩ rfl rfl rfl rfl rfl (by kernel_rfl) Try.func5 (by kernel_rfl)
    (of_decide_eq_true (by kernel_rfl)) (by unfold Func.isWrapper; first | (rw [if_pos (by decide +kernel)]; kernel_rfl) | (rw [if_neg (by decide +kernel)]; exact ⟨rfl, rfl⟩))
    (fun os started H enc _ => lifted_direntsChange os started H enc)

theorem direntsChange_holds : Rows.DirentsChangeSaid := direntsChange_over
#print axioms direntsChange_holds

end Go.Proofs.Ytlhkfpenfbakkaa
