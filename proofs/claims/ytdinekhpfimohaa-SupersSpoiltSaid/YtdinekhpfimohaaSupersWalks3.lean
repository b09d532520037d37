/- Walks: the reference's superblock. -/
import Derived.Test.YtdinekhpfimohaaSupersWalks2
set_option linter.unusedVariables false
set_option linter.unusedSimpArgs false
set_option maxRecDepth 100000
namespace Go.Proofs.Ytdinekhpfimohaa
open Go.RowKit Go.Joins

set_option maxHeartbeats 2000000 in
theorem rcheck_any (b l m c i g f t n v : Int) (w : World) :
    Calls Try.prog 18 #[sv b l m c i g f t n v] w fun e w' => e = .returned (.bool (superOk b l m c i g f t n v)) ∧ Below w.heap.size w w' := by
  by_cases hg : geoOk b l m = true
  · obtain ⟨g1, g2, _⟩ := geoOk_iff.1 hg
    have HC1 := Lib.hid (fun W => rof_yes b l m W hg)
    have HG := Lib.hid hg
    clear hg
    go_enter Try.func18, Try.ntmps18
    go_wp2_with fail
    refine (HC1.out _).mono ?_
    rintro e w1 ⟨rfl, hb1⟩
    have B0 := (Below.refl w.heap.size w).alloc (Nat.le_refl _) (.cells #[.int .i64 b, .int .i64 l, .int .i64 m, .int .i64 c, .int .i64 i, .int .i64 g, .int .i64 f, .int .i64 t, .int .i64 n, .int .i64 v] 23)
    have B1 := below_chain B0 hb1 B0.size
    have hr := ((rowAt_alloc w #[.int .i64 b, .int .i64 l, .int .i64 m, .int .i64 c, .int .i64 i, .int .i64 g, .int .i64 f, .int .i64 t, .int .i64 n, .int .i64 v] 23).below hb1 (rowAt_alloc w _ _).lt)
    have hl := hr.lt
    obtain ⟨c0, c1, c2, c3, c4, c5, c6, c7, c8, c9⟩ := sup_cells hr
    clear hb1 hr
    go_wp2_with fail
    all_goals
      go_ret
      refine ⟨congrArg Ending.returned (congrArg Value.bool ?_), B1.alloc B1.size _⟩
      rw [Bool.eq_iff_iff, superOk_iff, stillB_iff, slidesB_iff]
      simp only [HG.out, Bool.false_eq_true, decide_eq_true_eq, false_iff, true_iff, true_and]
      first
        | omega
        | (have hv : (v == 0) = true → v = 0 := fun h => by simpa using h
           have hv' : (v == 0) = false → v ≠ 0 := fun h => by simpa using h
           first
             | (have := hv (by assumption); omega)
             | (have := hv' (by assumption); omega))
  · rw [Bool.not_eq_true] at hg
    have HS : Hid (superOk b l m c i g f t n v = false) := by
      show _ = _
      unfold superOk
      rw [hg]; rfl
    have HC1 := Lib.hid (fun W => rof_no b l m W hg)
    clear hg
    go_enter Try.func18, Try.ntmps18
    go_wp2_with fail
    refine (HC1.out _).mono ?_
    rintro e w1 ⟨rfl, hb1⟩
    have B0 := (Below.refl w.heap.size w).alloc (Nat.le_refl _) (.cells #[.int .i64 b, .int .i64 l, .int .i64 m, .int .i64 c, .int .i64 i, .int .i64 g, .int .i64 f, .int .i64 t, .int .i64 n, .int .i64 v] 23)
    have B1 := below_chain B0 hb1 B0.size
    have hr := ((rowAt_alloc w #[.int .i64 b, .int .i64 l, .int .i64 m, .int .i64 c, .int .i64 i, .int .i64 g, .int .i64 f, .int .i64 t, .int .i64 n, .int .i64 v] 23).below hb1 (rowAt_alloc w _ _).lt)
    have hl := hr.lt
    obtain ⟨c0, c1, c2, c3, c4, c5, c6, c7, c8, c9⟩ := sup_cells hr
    clear hb1 hr
    go_wp2_with fail
    go_ret
    rw [HS.out]
    exact ⟨rfl, B1.alloc B1.size _⟩

end Go.Proofs.Ytdinekhpfimohaa
