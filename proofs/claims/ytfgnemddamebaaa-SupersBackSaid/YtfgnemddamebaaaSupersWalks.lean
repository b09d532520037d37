/- Walks: may a superblock be? -/
import Derived.Test.YtfgnemddamebaaaGeoWalks
import Derived.Test.YtfgnemddamebaaaPlainSupers
import Derived.Test.YtfgnemddamebaaaWordsWalks3
set_option linter.unusedVariables false
set_option linter.unusedSimpArgs false
set_option maxRecDepth 100000
namespace Go.Proofs.Ytfgnemddamebaaa
open Go.RowKit Go.Joins

/-- a superblock as the program has it -/
abbrev sv (b l m c i g f t n v : Int) : Value := .agg #[.int .i64 b, .int .i64 l, .int .i64 m, .int .i64 c, .int .i64 i, .int .i64 g, .int .i64 f, .int .i64 t, .int .i64 n, .int .i64 v]

/-- a superblock in memory -/
theorem sup_cells {w : World} {k : Nat} {b l m c i g f t n v : Int} (h : RowAt w k [.int .i64 b, .int .i64 l, .int .i64 m, .int .i64 c, .int .i64 i, .int .i64 g, .int .i64 f, .int .i64 t, .int .i64 n, .int .i64 v]) :
    w.cell? ⟨k, 0, none⟩ = some (.int .i64 b) ∧ w.cell? ⟨k, 1, none⟩ = some (.int .i64 l) ∧ w.cell? ⟨k, 2, none⟩ = some (.int .i64 m) ∧ w.cell? ⟨k, 3, none⟩ = some (.int .i64 c) ∧ w.cell? ⟨k, 4, none⟩ = some (.int .i64 i) ∧ w.cell? ⟨k, 5, none⟩ = some (.int .i64 g) ∧ w.cell? ⟨k, 6, none⟩ = some (.int .i64 f) ∧ w.cell? ⟨k, 7, none⟩ = some (.int .i64 t) ∧ w.cell? ⟨k, 8, none⟩ = some (.int .i64 n) ∧ w.cell? ⟨k, 9, none⟩ = some (.int .i64 v) :=
  ⟨h.cell 0 (by simp), h.cell 1 (by simp), h.cell 2 (by simp), h.cell 3 (by simp), h.cell 4 (by simp), h.cell 5 (by simp), h.cell 6 (by simp), h.cell 7 (by simp), h.cell 8 (by simp), h.cell 9 (by simp)⟩

set_option maxHeartbeats 1000000 in
theorem still_any (b l m c i g f t n v : Int) (w : World) :
    Calls Try.prog 43 #[sv b l m c i g f t n v] w fun e w' => e = .returned (.bool (stillB i g f t n v)) ∧ Below w.heap.size w w' := by
  go_enter Try.func43, Try.ntmps43
  go_wp2
  all_goals
    go_ret
    refine ⟨congrArg Ending.returned (congrArg Value.bool ?_), (Below.refl _ _).alloc (Nat.le_refl _) _⟩
    rw [Bool.eq_iff_iff, stillB_iff]
    simp only [Bool.false_eq_true, decide_eq_true_eq, beq_iff_eq, false_iff, true_iff]
    omega

set_option maxHeartbeats 1000000 in
theorem slides_any (b l m c i g f t n v : Int) (w : World) (hb0 : 0 ≤ b) (hb : b ≤ 4096) :
    Calls Try.prog 44 #[sv b l m c i g f t n v] w fun e w' => e = .returned (.bool (slidesB b m i g f t n v)) ∧ Below w.heap.size w w' := by
  go_enter Try.func44, Try.ntmps44
  go_wp2
  all_goals
    go_ret
    refine ⟨congrArg Ending.returned (congrArg Value.bool ?_), (Below.refl _ _).alloc (Nat.le_refl _) _⟩
    rw [Bool.eq_iff_iff, slidesB_iff]
    simp only [Bool.false_eq_true, decide_eq_true_eq, beq_iff_eq, false_iff, true_iff]
    omega

set_option maxHeartbeats 1000000 in
theorem check_any (b l m c i g f t n v : Int) (w : World) :
    Calls Try.prog 24 #[sv b l m c i g f t n v] w fun e w' => e = .returned (.bool (superOk b l m c i g f t n v)) ∧ Below w.heap.size w w' := by
  by_cases hg : geoOk b l m = true
  · obtain ⟨g1, g2, _⟩ := geoOk_iff.1 hg
    have HC1 := Lib.hid (fun W => of_yes b l m W hg)
    by_cases hc : 0 ≤ c ∧ c ≤ b
    · obtain ⟨k0, k1⟩ := hc
      by_cases hs : stillB i g f t n v = true
      · have HS : Hid (superOk b l m c i g f t n v = true) := superOk_iff.2 ⟨hg, k0, k1, .inl hs⟩
        have HC2 := Lib.hid (fun W => by have := still_any b l m c i g f t n v W; rw [hs] at this; exact this : ∀ W, Calls Try.prog 43 #[sv b l m c i g f t n v] W fun e w' => e = .returned (.bool true) ∧ Below W.heap.size W w')
        clear hs hg
        go_enter Try.func24, Try.ntmps24
        go_wp2_with fail
        refine (HC1.out _).mono ?_
        rintro e w1 ⟨rfl, hb1⟩
        have B0 := (Below.refl w.heap.size w).alloc (Nat.le_refl _) (.cells #[.int .i64 b, .int .i64 l, .int .i64 m, .int .i64 c, .int .i64 i, .int .i64 g, .int .i64 f, .int .i64 t, .int .i64 n, .int .i64 v] 49)
        have B1 := below_chain B0 hb1 B0.size
        have hr := ((rowAt_alloc w #[.int .i64 b, .int .i64 l, .int .i64 m, .int .i64 c, .int .i64 i, .int .i64 g, .int .i64 f, .int .i64 t, .int .i64 n, .int .i64 v] 49).below hb1 (rowAt_alloc w _ _).lt)
        have hl := hr.lt
        obtain ⟨c0, c1, c2, c3, c4, c5, c6, c7, c8, c9⟩ := sup_cells hr
        go_wp2_with fail
        refine (HC2.out _).mono ?_
        rintro e w2 ⟨rfl, hb2⟩
        have B2 := below_chain (B1.alloc B1.size _) hb2 (B1.alloc B1.size _).size
        go_wp2_with fail
        go_ret
        rw [HS.out]
        exact ⟨rfl, B2⟩
      · rw [Bool.not_eq_true] at hs
        have HS : Hid (superOk b l m c i g f t n v = slidesB b m i g f t n v) := by
          show _ = _
          simp [superOk, hg, k0, k1, hs]
        have HC2 := Lib.hid (fun W => by have := still_any b l m c i g f t n v W; rw [hs] at this; exact this : ∀ W, Calls Try.prog 43 #[sv b l m c i g f t n v] W fun e w' => e = .returned (.bool false) ∧ Below W.heap.size W w')
        have HC3 := Lib.hid (fun W => slides_any b l m c i g f t n v W (by omega) g2)
        clear hs hg
        go_enter Try.func24, Try.ntmps24
        go_wp2_with fail
        refine (HC1.out _).mono ?_
        rintro e w1 ⟨rfl, hb1⟩
        have B0 := (Below.refl w.heap.size w).alloc (Nat.le_refl _) (.cells #[.int .i64 b, .int .i64 l, .int .i64 m, .int .i64 c, .int .i64 i, .int .i64 g, .int .i64 f, .int .i64 t, .int .i64 n, .int .i64 v] 49)
        have B1 := below_chain B0 hb1 B0.size
        have hr := ((rowAt_alloc w #[.int .i64 b, .int .i64 l, .int .i64 m, .int .i64 c, .int .i64 i, .int .i64 g, .int .i64 f, .int .i64 t, .int .i64 n, .int .i64 v] 49).below hb1 (rowAt_alloc w _ _).lt)
        have hl := hr.lt
        obtain ⟨c0, c1, c2, c3, c4, c5, c6, c7, c8, c9⟩ := sup_cells hr
        go_wp2_with fail
        refine (HC2.out _).mono ?_
        rintro e w2 ⟨rfl, hb2⟩
        have B2 := below_chain (B1.alloc B1.size _) hb2 (B1.alloc B1.size _).size
        have hr2 := (hr.alloc _).below hb2 (hr.alloc _).lt
        clear c0  c1  c2  c3  c4  c5  c6  c7  c8  c9
        obtain ⟨c0, c1, c2, c3, c4, c5, c6, c7, c8, c9⟩ := sup_cells hr2
        go_wp2_with fail
        refine (HC3.out _).mono ?_
        rintro e w3 ⟨rfl, hb3⟩
        have B3 := below_chain B2 hb3 B2.size
        go_wp2_with fail
        go_ret
        rw [HS.out]
        exact ⟨rfl, B3⟩
    · have HS : Hid (superOk b l m c i g f t n v = false) := by
        show _ = _
        rw [← Bool.not_eq_true, superOk_iff]
        intro x
        exact hc ⟨x.2.1, x.2.2.1⟩
      clear hg
      by_cases k0 : 0 ≤ c
      all_goals
        have k1 : c < 0 ∨ b < c := by omega
        clear hc
        go_enter Try.func24, Try.ntmps24
        go_wp2_with fail
        refine (HC1.out _).mono ?_
        rintro e w1 ⟨rfl, hb1⟩
        have B0 := (Below.refl w.heap.size w).alloc (Nat.le_refl _) (.cells #[.int .i64 b, .int .i64 l, .int .i64 m, .int .i64 c, .int .i64 i, .int .i64 g, .int .i64 f, .int .i64 t, .int .i64 n, .int .i64 v] 49)
        have B1 := below_chain B0 hb1 B0.size
        have hr := ((rowAt_alloc w #[.int .i64 b, .int .i64 l, .int .i64 m, .int .i64 c, .int .i64 i, .int .i64 g, .int .i64 f, .int .i64 t, .int .i64 n, .int .i64 v] 49).below hb1 (rowAt_alloc w _ _).lt)
        have hl := hr.lt
        obtain ⟨c0, c1, c2, c3, c4, c5, c6, c7, c8, c9⟩ := sup_cells hr
        go_wp2_with fail
        go_ret
        rw [HS.out]
        exact ⟨rfl, B1.alloc B1.size _⟩
  · rw [Bool.not_eq_true] at hg
    have HS : Hid (superOk b l m c i g f t n v = false) := by
      show _ = _
      unfold superOk
      rw [hg]; rfl
    have HC1 := Lib.hid (fun W => of_no b l m W hg)
    clear hg
    go_enter Try.func24, Try.ntmps24
    go_wp2_with fail
    refine (HC1.out _).mono ?_
    rintro e w1 ⟨rfl, hb1⟩
    have B0 := (Below.refl w.heap.size w).alloc (Nat.le_refl _) (.cells #[.int .i64 b, .int .i64 l, .int .i64 m, .int .i64 c, .int .i64 i, .int .i64 g, .int .i64 f, .int .i64 t, .int .i64 n, .int .i64 v] 49)
    have B1 := below_chain B0 hb1 B0.size
    have hr := ((rowAt_alloc w #[.int .i64 b, .int .i64 l, .int .i64 m, .int .i64 c, .int .i64 i, .int .i64 g, .int .i64 f, .int .i64 t, .int .i64 n, .int .i64 v] 49).below hb1 (rowAt_alloc w _ _).lt)
    have hl := hr.lt
    obtain ⟨c0, c1, c2, c3, c4, c5, c6, c7, c8, c9⟩ := sup_cells hr
    go_wp2_with fail
    go_ret
    rw [HS.out]
    exact ⟨rfl, B1.alloc B1.size _⟩

end Go.Proofs.Ytfgnemddamebaaa
