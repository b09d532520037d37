/- Walks: layouts. -/
import Derived.Test.YtfgnemddamebaaaRows
import Derived.Test.YtfgnemddamebaaaPlainGeo
import Derived.Test.YtfgnemddamebaaaMem
import Derived.Test.YtfgnemddamebaaaAid
import Derived.WalkKit
import Derived.WalkSpells
import Derived.WalkLawsBesides
import Derived.Handy
import Derived.BigQuiet
import Derived.Deep.QuietTactic
set_option linter.unusedVariables false
set_option linter.unusedSimpArgs false
set_option maxRecDepth 100000
namespace Go.Proofs.Ytfgnemddamebaaa
open Go.RowKit Go.Joins

/-- a layout as the program has it -/
abbrev gv (b l m la ma ml ta tl da : Int) : Value := .agg #[.int .i64 b, .int .i64 l, .int .i64 m, .int .i64 la, .int .i64 ma, .int .i64 ml, .int .i64 ta, .int .i64 tl, .int .i64 da]

set_option maxHeartbeats 1000000 in
theorem of_yes (b l m : Int) (w : World) (h : geoOk b l m = true) :
    Calls Try.prog 42 #[.int .i64 b, .int .i64 l, .int .i64 m] w fun e w' => e = .returned (.tuple #[gv b l m 1 (1 + l) (gMap b) (1 + l + gMap b) (m / 2) (gData b l m), .int .i64 0]) ∧ Below w.heap.size w w' := by
  obtain ⟨h1, h2, h3, h4, h5, h6, h7, h8⟩ := geoOk_iff.1 h
  have h7' : (m % 2 != 0) = false := by simp [h7]
  clear h h7
  unfold gData gMap at *
  go_enter Try.func42, Try.ntmps42
  go_wp2
  refine bodyPost_ret (v := .tuple #[gv b l m 1 (1 + l) ((b + 1024 - 1) / 1024) (1 + l + (b + 1024 - 1) / 1024) (m / 2) (1 + l + (b + 1024 - 1) / 1024 + m / 2), .int .i64 0]) (by simp [results, Try.results42, go_sem]) rfl ⟨rfl, ?_⟩
  exact ((Below.refl _ _).alloc (Nat.le_refl _) _).alloc (by simp) _

set_option maxHeartbeats 1000000 in
theorem of_no (b l m : Int) (w : World) (h : geoOk b l m = false) :
    Calls Try.prog 42 #[.int .i64 b, .int .i64 l, .int .i64 m] w fun e w' => e = .returned (.tuple #[gv 0 0 0 0 0 0 0 0 0, .int .i64 2]) ∧ Below w.heap.size w w' := by
  have HF : Hid (¬ geoOk b l m = true) := by show ¬ _; rw [h]; simp
  clear h
  go_enter Try.func42, Try.ntmps42
  go_wp2
  all_goals first
    | (refine bodyPost_ret (v := .tuple #[gv 0 0 0 0 0 0 0 0 0, .int .i64 2]) ?_ rfl ⟨rfl, ?_⟩
       · simp [results, Try.results42, go_sem]; done
       · go_grown)
    | (exfalso
       have h2 : m % 2 = 0 := by simp_all
       refine HF.out (geoOk_iff.2 ?_)
       unfold gData gMap
       omega)

theorem of_any (b l m : Int) (w : World) :
    Calls Try.prog 42 #[.int .i64 b, .int .i64 l, .int .i64 m] w fun e w' => e = .returned (if geoOk b l m then .tuple #[gv b l m 1 (1 + l) (gMap b) (1 + l + gMap b) (m / 2) (gData b l m), .int .i64 0] else .tuple #[gv 0 0 0 0 0 0 0 0 0, .int .i64 2]) ∧ Below w.heap.size w w' := by
  by_cases h : geoOk b l m = true
  · rw [if_pos h]; exact of_yes b l m w h
  · rw [if_neg h]; exact of_no b l m w (by simpa using h)

end Go.Proofs.Ytfgnemddamebaaa
