/- For every input the law glissadelaw10.SupersSlide returns true. -/
import Derived.Deep.RegionHeld3
import Derived.Test.YtdinekhpfimohaaSupersAlive
import Derived.Test.YtdinekhpfimohaaFrame
set_option linter.unusedVariables false
set_option linter.unusedSimpArgs false
set_option maxRecDepth 100000
namespace Go.Proofs.Ytdinekhpfimohaa
open Go.RowKit Go.Joins

set_option maxHeartbeats 1000000 in
theorem eq_six (i g f t n v : Int) (w : World) : (Op.equalIn 10000 40 (.agg #[.int .i64 i, .int .i64 g, .int .i64 f, .int .i64 t, .int .i64 n, .int .i64 v]) (.agg #[.int .i64 0, .int .i64 0, .int .i64 0, .int .i64 0, .int .i64 0, .int .i64 0])).run Try.prog w = .ok (stillB i g f t n v) w := by
  have u3 := Try.underlying3
  have a3 := Try.isAgg3
  have z3 := Try.sizeOf3
  rw [show (10000 : Nat) = 9999 + 1 from rfl, Op.equalIn]
  simp only [Sem.run_bind, run_underlying Try.underlying40, Result.andThen_ok]
  simp only [Std.Legacy.Range.forIn_eq_forIn_range', Std.Legacy.Range.size, Nat.sub_zero, Nat.add_sub_cancel, Nat.div_one, List.range'_succ, List.range'_zero, List.forIn_cons, List.forIn_nil]
  go_simp
  unfold stillB
  by_cases h1 : i = 0
  · by_cases h2 : g = 0
    · by_cases h3 : f = 0
      · by_cases h4 : t = 0
        · by_cases h5 : n = 0
          · by_cases h6 : v = 0 <;> simp [h1, h2, h3, h4, h5, h6]
          · simp [h1, h2, h3, h4, h5]
        · simp [h1, h2, h3, h4]
      · simp [h1, h2, h3]
    · simp [h1, h2]
  · simp [h1]

set_option maxHeartbeats 4000000 in
theorem supSlide_core (w : World) (b l m i g f t n v : Int) (g0 g1 g2 g3 g4 g5 g6 g7 g8 e0 : Int) (ck : Bool)
    (HC1 : RowKit.Hid (∀ W, Calls Try.prog 22 #[.int .i64 b, .int .i64 l, .int .i64 m] W fun e w' => e = .returned (.tuple #[gv g0 g1 g2 g3 g4 g5 g6 g7 g8, .int .i64 e0]) ∧ Below W.heap.size W w'))
    (HC3 : RowKit.Hid (∀ W, Calls Try.prog 17 #[sv b l m 0 i g f t n v] W fun e w' => e = .returned (.bool ck) ∧ Below W.heap.size W w'))
    (hc : (e0 = 2 ∧ ck = false) ∨ (e0 = 0 ∧ ck = true ∧ i = 0 ∧ g = 0 ∧ f = 0 ∧ t = 0 ∧ n = 0 ∧ v = 0) ∨ (e0 = 0 ∧ ck = true ∧ 256 ≤ b ∧ b ≤ 4096 ∧ stillB i g f t n v = false ∧ 2 ≤ n ∧ n ≤ b ∧ 1 ≤ v ∧ v < n ∧ 0 ≤ i ∧ i < m ∧ 0 ≤ g ∧ g ≤ 2048 - n ∧ 0 ≤ f ∧ f ≤ b - n ∧ 0 ≤ t ∧ t ≤ b - n) ∨ (e0 = 0 ∧ ck = false ∧ 256 ≤ b ∧ b ≤ 4096 ∧ stillB i g f t n v = false ∧ RowKit.Hid (¬ slidesB b m i g f t n v = true))) :
    Calls Try.prog 7 #[.agg #[.int .i64 b, .int .i64 l, .int .i64 m], .agg #[.int .i64 i, .int .i64 g, .int .i64 f, .int .i64 t, .int .i64 n, .int .i64 v]] w fun e w' => e = .returned (.bool true) ∧ Below w.heap.size w w' := by
  rcases hc with ⟨rfl, rfl⟩ | ⟨rfl, rfl, rfl, rfl, rfl, rfl, rfl, rfl⟩ | ⟨rfl, rfl, hb0, hb9, hst, s1, s2, s3, s4, s5, s6, s7, s8, s9, s10, s11, s12⟩ | ⟨rfl, rfl, hb0, hb9, hst, hns⟩
  · go_enter Try.func7, Try.ntmps7
    go_wp2_with fail
    refine (HC1.out _).mono ?_
    rintro e w1 ⟨rfl, hb1⟩
    have B0 := ((Below.refl w.heap.size w).alloc (Nat.le_refl _) (.cells #[.int .i64 b, .int .i64 l, .int .i64 m] 34)).alloc (by simp) (.cells #[.int .i64 i, .int .i64 g, .int .i64 f, .int .i64 t, .int .i64 n, .int .i64 v] 40)
    have B1 := below_chain B0 hb1 B0.size
    have hr0 := (rowAt_alloc w #[.int .i64 b, .int .i64 l, .int .i64 m] 34).alloc (.cells #[.int .i64 i, .int .i64 g, .int .i64 f, .int .i64 t, .int .i64 n, .int .i64 v] 40)
    have hx0 := rowAt_alloc (w.alloc (.cells #[.int .i64 b, .int .i64 l, .int .i64 m] 34)) #[.int .i64 i, .int .i64 g, .int .i64 f, .int .i64 t, .int .i64 n, .int .i64 v] 40
    simp only [World.size_alloc] at hx0
    have hr1 := hr0.below hb1 hr0.lt
    have hx1 := hx0.below hb1 hx0.lt
    have hl1 := hr1.lt
    have hm1 := hx1.lt
    have hq := eq_six i g f t n v
    have c0 := hr1.cell 0 (by simp)
    have c1 := hr1.cell 1 (by simp)
    have c2 := hr1.cell 2 (by simp)
    have x0 := hx1.cell 0 (by simp)
    have x1 := hx1.cell 1 (by simp)
    have x2 := hx1.cell 2 (by simp)
    have x3 := hx1.cell 3 (by simp)
    have x4 := hx1.cell 4 (by simp)
    have x5 := hx1.cell 5 (by simp)
    try simp only [List.getElem_cons_zero, List.getElem_cons_succ] at c0 c1 c2 x0 x1 x2 x3 x4 x5
    go_wp2_with fail
    all_goals
      refine (HC3.out _).mono ?_
      rintro e w2 ⟨rfl, hb2⟩
      have B1a := B1.alloc B1.size (.cells #[.int .i64 g0, .int .i64 g1, .int .i64 g2, .int .i64 g3, .int .i64 g4, .int .i64 g5, .int .i64 g6, .int .i64 g7, .int .i64 g8] 36)
      have B1b := B1a.alloc B1a.size (.cells #[.int .i64 b, .int .i64 l, .int .i64 m, .int .i64 0, .int .i64 i, .int .i64 g, .int .i64 f, .int .i64 t, .int .i64 n, .int .i64 v] 23)
      have B2 := below_chain B1b hb2 B1b.size
      clear c0 c1 c2 x0 x1 x2 x3 x4 x5
      first
        | (have hz : decide (t ≤ b - n) = false := decide_eq_false (fun q => hns.out (slidesB_iff.2 ⟨by omega, by omega, by omega, by omega, by omega, by omega, by omega, by omega, by omega, by omega, by omega, by omega⟩)))
        | skip
      go_wp2_with fail
      refine (alive10 _).mono ?_
      rintro e w3 ⟨rfl, hb3⟩
      have B3 := below_chain B2 hb3 B2.size
      go_wp2_with fail
      go_ret
      exact ⟨by first | rfl | simp, B3⟩
  · go_enter Try.func7, Try.ntmps7
    go_wp2_with fail
    refine (HC1.out _).mono ?_
    rintro e w1 ⟨rfl, hb1⟩
    have B0 := ((Below.refl w.heap.size w).alloc (Nat.le_refl _) (.cells #[.int .i64 b, .int .i64 l, .int .i64 m] 34)).alloc (by simp) (.cells #[.int .i64 0, .int .i64 0, .int .i64 0, .int .i64 0, .int .i64 0, .int .i64 0] 40)
    have B1 := below_chain B0 hb1 B0.size
    have hr0 := (rowAt_alloc w #[.int .i64 b, .int .i64 l, .int .i64 m] 34).alloc (.cells #[.int .i64 0, .int .i64 0, .int .i64 0, .int .i64 0, .int .i64 0, .int .i64 0] 40)
    have hx0 := rowAt_alloc (w.alloc (.cells #[.int .i64 b, .int .i64 l, .int .i64 m] 34)) #[.int .i64 0, .int .i64 0, .int .i64 0, .int .i64 0, .int .i64 0, .int .i64 0] 40
    simp only [World.size_alloc] at hx0
    have hr1 := hr0.below hb1 hr0.lt
    have hx1 := hx0.below hb1 hx0.lt
    have hl1 := hr1.lt
    have hm1 := hx1.lt
    have hq := eq_six 0 0 0 0 0 0
    rw [show stillB 0 0 0 0 0 0 = true from rfl] at hq
    have c0 := hr1.cell 0 (by simp)
    have c1 := hr1.cell 1 (by simp)
    have c2 := hr1.cell 2 (by simp)
    have x0 := hx1.cell 0 (by simp)
    have x1 := hx1.cell 1 (by simp)
    have x2 := hx1.cell 2 (by simp)
    have x3 := hx1.cell 3 (by simp)
    have x4 := hx1.cell 4 (by simp)
    have x5 := hx1.cell 5 (by simp)
    try simp only [List.getElem_cons_zero, List.getElem_cons_succ] at c0 c1 c2 x0 x1 x2 x3 x4 x5
    go_wp2_with fail
    all_goals
      refine (HC3.out _).mono ?_
      rintro e w2 ⟨rfl, hb2⟩
      have B1a := B1.alloc B1.size (.cells #[.int .i64 g0, .int .i64 g1, .int .i64 g2, .int .i64 g3, .int .i64 g4, .int .i64 g5, .int .i64 g6, .int .i64 g7, .int .i64 g8] 36)
      have B1b := B1a.alloc B1a.size (.cells #[.int .i64 b, .int .i64 l, .int .i64 m, .int .i64 0, .int .i64 0, .int .i64 0, .int .i64 0, .int .i64 0, .int .i64 0, .int .i64 0] 23)
      have B2 := below_chain B1b hb2 B1b.size
      clear c0 c1 c2 x0 x1 x2 x3 x4 x5
      first
        | (have hz : decide (t ≤ b - n) = false := decide_eq_false (fun q => hns.out (slidesB_iff.2 ⟨by omega, by omega, by omega, by omega, by omega, by omega, by omega, by omega, by omega, by omega, by omega, by omega⟩)))
        | skip
      go_wp2_with fail
      refine (alive10 _).mono ?_
      rintro e w3 ⟨rfl, hb3⟩
      have B3 := below_chain B2 hb3 B2.size
      go_wp2_with fail
      go_ret
      exact ⟨by first | rfl | simp, B3⟩
  · go_enter Try.func7, Try.ntmps7
    go_wp2_with fail
    refine (HC1.out _).mono ?_
    rintro e w1 ⟨rfl, hb1⟩
    have B0 := ((Below.refl w.heap.size w).alloc (Nat.le_refl _) (.cells #[.int .i64 b, .int .i64 l, .int .i64 m] 34)).alloc (by simp) (.cells #[.int .i64 i, .int .i64 g, .int .i64 f, .int .i64 t, .int .i64 n, .int .i64 v] 40)
    have B1 := below_chain B0 hb1 B0.size
    have hr0 := (rowAt_alloc w #[.int .i64 b, .int .i64 l, .int .i64 m] 34).alloc (.cells #[.int .i64 i, .int .i64 g, .int .i64 f, .int .i64 t, .int .i64 n, .int .i64 v] 40)
    have hx0 := rowAt_alloc (w.alloc (.cells #[.int .i64 b, .int .i64 l, .int .i64 m] 34)) #[.int .i64 i, .int .i64 g, .int .i64 f, .int .i64 t, .int .i64 n, .int .i64 v] 40
    simp only [World.size_alloc] at hx0
    have hr1 := hr0.below hb1 hr0.lt
    have hx1 := hx0.below hb1 hx0.lt
    have hl1 := hr1.lt
    have hm1 := hx1.lt
    have hq := eq_six i g f t n v
    rw [hst] at hq
    have c0 := hr1.cell 0 (by simp)
    have c1 := hr1.cell 1 (by simp)
    have c2 := hr1.cell 2 (by simp)
    have x0 := hx1.cell 0 (by simp)
    have x1 := hx1.cell 1 (by simp)
    have x2 := hx1.cell 2 (by simp)
    have x3 := hx1.cell 3 (by simp)
    have x4 := hx1.cell 4 (by simp)
    have x5 := hx1.cell 5 (by simp)
    try simp only [List.getElem_cons_zero, List.getElem_cons_succ] at c0 c1 c2 x0 x1 x2 x3 x4 x5
    go_wp2_with fail
    all_goals
      refine (HC3.out _).mono ?_
      rintro e w2 ⟨rfl, hb2⟩
      have B1a := B1.alloc B1.size (.cells #[.int .i64 g0, .int .i64 g1, .int .i64 g2, .int .i64 g3, .int .i64 g4, .int .i64 g5, .int .i64 g6, .int .i64 g7, .int .i64 g8] 36)
      have B1b := B1a.alloc B1a.size (.cells #[.int .i64 b, .int .i64 l, .int .i64 m, .int .i64 0, .int .i64 i, .int .i64 g, .int .i64 f, .int .i64 t, .int .i64 n, .int .i64 v] 23)
      have B2 := below_chain B1b hb2 B1b.size
      clear c0 c1 c2 x0 x1 x2 x3 x4 x5
      first
        | (have hz : decide (t ≤ b - n) = false := decide_eq_false (fun q => hns.out (slidesB_iff.2 ⟨by omega, by omega, by omega, by omega, by omega, by omega, by omega, by omega, by omega, by omega, by omega, by omega⟩)))
        | skip
      go_wp2_with fail
      refine (alive10 _).mono ?_
      rintro e w3 ⟨rfl, hb3⟩
      have B3 := below_chain B2 hb3 B2.size
      go_wp2_with fail
      go_ret
      exact ⟨by first | rfl | simp, B3⟩
  · go_enter Try.func7, Try.ntmps7
    go_wp2_with fail
    refine (HC1.out _).mono ?_
    rintro e w1 ⟨rfl, hb1⟩
    have B0 := ((Below.refl w.heap.size w).alloc (Nat.le_refl _) (.cells #[.int .i64 b, .int .i64 l, .int .i64 m] 34)).alloc (by simp) (.cells #[.int .i64 i, .int .i64 g, .int .i64 f, .int .i64 t, .int .i64 n, .int .i64 v] 40)
    have B1 := below_chain B0 hb1 B0.size
    have hr0 := (rowAt_alloc w #[.int .i64 b, .int .i64 l, .int .i64 m] 34).alloc (.cells #[.int .i64 i, .int .i64 g, .int .i64 f, .int .i64 t, .int .i64 n, .int .i64 v] 40)
    have hx0 := rowAt_alloc (w.alloc (.cells #[.int .i64 b, .int .i64 l, .int .i64 m] 34)) #[.int .i64 i, .int .i64 g, .int .i64 f, .int .i64 t, .int .i64 n, .int .i64 v] 40
    simp only [World.size_alloc] at hx0
    have hr1 := hr0.below hb1 hr0.lt
    have hx1 := hx0.below hb1 hx0.lt
    have hl1 := hr1.lt
    have hm1 := hx1.lt
    have hq := eq_six i g f t n v
    rw [hst] at hq
    have c0 := hr1.cell 0 (by simp)
    have c1 := hr1.cell 1 (by simp)
    have c2 := hr1.cell 2 (by simp)
    have x0 := hx1.cell 0 (by simp)
    have x1 := hx1.cell 1 (by simp)
    have x2 := hx1.cell 2 (by simp)
    have x3 := hx1.cell 3 (by simp)
    have x4 := hx1.cell 4 (by simp)
    have x5 := hx1.cell 5 (by simp)
    try simp only [List.getElem_cons_zero, List.getElem_cons_succ] at c0 c1 c2 x0 x1 x2 x3 x4 x5
    go_wp2_with fail
    all_goals
      refine (HC3.out _).mono ?_
      rintro e w2 ⟨rfl, hb2⟩
      have B1a := B1.alloc B1.size (.cells #[.int .i64 g0, .int .i64 g1, .int .i64 g2, .int .i64 g3, .int .i64 g4, .int .i64 g5, .int .i64 g6, .int .i64 g7, .int .i64 g8] 36)
      have B1b := B1a.alloc B1a.size (.cells #[.int .i64 b, .int .i64 l, .int .i64 m, .int .i64 0, .int .i64 i, .int .i64 g, .int .i64 f, .int .i64 t, .int .i64 n, .int .i64 v] 23)
      have B2 := below_chain B1b hb2 B1b.size
      clear c0 c1 c2 x0 x1 x2 x3 x4 x5
      first
        | (have hz : decide (t ≤ b - n) = false := decide_eq_false (fun q => hns.out (slidesB_iff.2 ⟨by omega, by omega, by omega, by omega, by omega, by omega, by omega, by omega, by omega, by omega, by omega, by omega⟩)))
        | skip
      go_wp2_with fail
      refine (alive10 _).mono ?_
      rintro e w3 ⟨rfl, hb3⟩
      have B3 := below_chain B2 hb3 B2.size
      go_wp2_with fail
      go_ret
      exact ⟨by first | rfl | simp, B3⟩

theorem walk_supersSlide (w : World) (b l m : Int) (_ : ∀ z ∈ [b, l, m], -9223372036854775808 ≤ z ∧ z ≤ 9223372036854775807) (i g f t n v : Int) (_ : ∀ z ∈ [i, g, f, t, n, v], -9223372036854775808 ≤ z ∧ z ≤ 9223372036854775807) :
    Calls Try.prog 7 #[.agg #[.int .i64 b, .int .i64 l, .int .i64 m], .agg #[.int .i64 i, .int .i64 g, .int .i64 f, .int .i64 t, .int .i64 n, .int .i64 v]] w fun e w' => e = .returned (.bool true) ∧ Below w.heap.size w w' := by
  by_cases h : geoOk b l m = true
  · refine supSlide_core w b l m i g f t n v _ _ _ _ _ _ _ _ _ 0 _ (Lib.hid (fun W => of_yes b l m W h)) (Lib.hid (check_any b l m 0 i g f t n v)) ?_
    have hg := geoOk_iff.1 h
    by_cases hst : stillB i g f t n v = true
    · obtain ⟨z1, z2, z3, z4, z5, z6⟩ := stillB_iff.1 hst
      exact .inr (.inl ⟨rfl, superOk_iff.2 ⟨h, by omega, by omega, .inl hst⟩, z1, z2, z3, z4, z5, z6⟩)
    · by_cases hsl : slidesB b m i g f t n v = true
      · exact .inr (.inr (.inl ⟨rfl, superOk_iff.2 ⟨h, by omega, by omega, .inr hsl⟩, by omega, by omega, by simpa using hst, slidesB_iff.1 hsl⟩))
      · exact .inr (.inr (.inr ⟨rfl, Bool.eq_false_iff.2 (fun q => (superOk_iff.1 q).2.2.2.elim hst hsl), by omega, by omega, by simpa using hst, hsl⟩))
  · refine supSlide_core w b l m i g f t n v _ _ _ _ _ _ _ _ _ 2 _ (Lib.hid (fun W => of_no b l m W (by simpa using h))) (Lib.hid (check_any b l m 0 i g f t n v)) ?_
    exact .inl ⟨rfl, Bool.eq_false_iff.2 (fun q => h (superOk_iff.1 q).1)⟩

/-! ### the frame (printed by mklaw.py) -/

set_option maxRecDepth 100000 in
theorem lifted_supersSlide (os : Os) (started : os.Started) (H : Type) (enc : TypeId × Value → H) :
    ReturnsInHanded {} Try.checked os 7 .any (Rows.supersSlideSpec.pre6 enc Try.prog Try.f7 Rows.supersSlideRow.domain false) (Rows.supersSlideSpec.post enc Try.prog Try.f7 false true false false) := by
  refine law_step (C := Try.checked) (tb := 4) (by kernel_rfl) (by kernel_rfl) started (by kernel_rfl) Try.func7 rfl Try.underlying4 rfl ?_ ?_
    (ChangeSpec.witness6 (enc := enc) (C := Try.checked) false ⟨#[], #[.agg #[.int .i64 0, .int .i64 0, .int .i64 0], .agg #[.int .i64 0, .int .i64 0, .int .i64 0, .int .i64 0, .int .i64 0, .int .i64 0]], []⟩ 8 (by kernel_rfl) (by kernel_rfl) (by kernel_rfl) (by kernel_rfl)) ?_
  · intro ds hl
    match ds, hl with
    | [d0, d1], _ => rfl
  · intro t ht
    rw [show Try.f7.params.toList = [34, 40] from by rw [Try.params7]] at ht
    simp only [List.mem_cons, List.not_mem_nil, or_false] at ht
    rcases ht with rfl | rfl
    · exact ⟨by kernel_rfl, of_decide_eq_true (by kernel_rfl)⟩
    · exact ⟨by kernel_rfl, of_decide_eq_true (by kernel_rfl)⟩
  · intro W args hG
    rw [show Try.f7.params.toList = [34, 40] from by rw [Try.params7]] at hG
    obtain ⟨v0, v1, rfl, g0, g1⟩ := gotAll_args2 hG
    obtain ⟨zs0, rfl, zl0, zh0⟩ := got_flat (k := .i64) (n := 3) (by kernel_rfl) g0
    obtain ⟨z0_0, z0_1, z0_2, rfl⟩ : ∃ z0_0 z0_1 z0_2, zs0 = [z0_0, z0_1, z0_2] := by
      match zs0, zl0 with
      | [z0_0, z0_1, z0_2], _ => exact ⟨z0_0, z0_1, z0_2, rfl⟩
    obtain ⟨zs1, rfl, zl1, zh1⟩ := got_flat (k := .i64) (n := 6) (by kernel_rfl) g1
    obtain ⟨z1_0, z1_1, z1_2, z1_3, z1_4, z1_5, rfl⟩ : ∃ z1_0 z1_1 z1_2 z1_3 z1_4 z1_5, zs1 = [z1_0, z1_1, z1_2, z1_3, z1_4, z1_5] := by
      match zs1, zl1 with
      | [z1_0, z1_1, z1_2, z1_3, z1_4, z1_5], _ => exact ⟨z1_0, z1_1, z1_2, z1_3, z1_4, z1_5, rfl⟩
    exact walk_supersSlide W z0_0 z0_1 z0_2 (fun z hz => has_i64 (zh0 z hz)) z1_0 z1_1 z1_2 z1_3 z1_4 z1_5 (fun z hz => has_i64 (zh1 z hz))

theorem supersSlide_over : Rows.supersSlideRow.holds Try.pinned (OpenSpec.ofChange Rows.supersSlideSpec) :=
  OpenClaim.holds_of_wide 7 Try.f7 rfl rfl rfl rfl rfl rfl rfl ⟨rfl, rfl, rfl, rfl, rfl⟩ rfl rfl rfl rfl rfl (by kernel_rfl) Try.func7 (by kernel_rfl)
    (of_decide_eq_true (by kernel_rfl)) (by unfold Func.isWrapper; first | (rw [if_pos (by decide +kernel)]; kernel_rfl) | (rw [if_neg (by decide +kernel)]; exact ⟨rfl, rfl⟩))
    (fun os started H enc _ => lifted_supersSlide os started H enc)

theorem supersSlide_holds : Rows.SupersSlideSaid := supersSlide_over
#print axioms supersSlide_holds

end Go.Proofs.Ytdinekhpfimohaa
