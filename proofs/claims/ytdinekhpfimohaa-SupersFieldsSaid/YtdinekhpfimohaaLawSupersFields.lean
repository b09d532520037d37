/- For every input the law glissadelaw10.SupersFields returns true. -/
import Derived.Deep.RegionHeld3
import Derived.Handy
import Derived.StillTailTactics
import Derived.Test.YtdinekhpfimohaaSupersFacts
import Derived.Test.YtdinekhpfimohaaFrame
set_option linter.unusedVariables false
set_option linter.unusedSimpArgs false
set_option maxRecDepth 100000
namespace Go.Proofs.Ytdinekhpfimohaa
open Go.RowKit Go.Joins

set_option maxHeartbeats 1000000 in
theorem eq_super (b l m c i g f t n v b' l' m' c' i' g' f' t' n' v' : Int) (w : World) : (Op.equalIn 10000 23 (.agg #[.int .i64 b, .int .i64 l, .int .i64 m, .int .i64 c, .int .i64 i, .int .i64 g, .int .i64 f, .int .i64 t, .int .i64 n, .int .i64 v]) (.agg #[.int .i64 b', .int .i64 l', .int .i64 m', .int .i64 c', .int .i64 i', .int .i64 g', .int .i64 f', .int .i64 t', .int .i64 n', .int .i64 v'])).run Try.prog w = .ok ((b == b' && (l == l' && (m == m' && (c == c' && (i == i' && (g == g' && (f == f' && (t == t' && (n == n' && (v == v'))))))))))) w := by
  go_simp
  by_cases h0 : b = b'
  · by_cases h1 : l = l'
    · by_cases h2 : m = m'
      · by_cases h3 : c = c'
        · by_cases h4 : i = i'
          · by_cases h5 : g = g'
            · by_cases h6 : f = f'
              · by_cases h7 : t = t'
                · by_cases h8 : n = n'
                  · by_cases h9 : v = v' <;> simp [h0, h1, h2, h3, h4, h5, h6, h7, h8, h9]
                  · simp [h0, h1, h2, h3, h4, h5, h6, h7, h8]
                · simp [h0, h1, h2, h3, h4, h5, h6, h7]
              · simp [h0, h1, h2, h3, h4, h5, h6]
            · simp [h0, h1, h2, h3, h4, h5]
          · simp [h0, h1, h2, h3, h4]
        · simp [h0, h1, h2, h3]
      · simp [h0, h1, h2]
    · simp [h0, h1]
  · simp [h0]

set_option maxHeartbeats 4000000 in
theorem supFields_same (w : World) (b l m c i g f t n v : Int) (P : ByteArray) (hP : P.size = 128)
    (HC1 : RowKit.Hid (∀ W, Calls Try.prog 15 #[sv b l m c i g f t n v] W fun e w' => e = .returned (.tuple #[.string P, .int .i64 0]) ∧ Below W.heap.size W w'))
    (HC2 : RowKit.Hid (∀ W, Calls Try.prog 15 #[sv b l m c i g f t n v] W fun e w' => e = .returned (.tuple #[.string P, .int .i64 0]) ∧ Below W.heap.size W w')) :
    Calls Try.prog 5 #[sv b l m c i g f t n v, sv b l m c i g f t n v] w fun e w' => e = .returned (.bool true) ∧ Below w.heap.size w w' := by
  go_enter Try.func5, Try.ntmps5
  go_wp2_with fail
  refine (HC1.out _).mono ?_
  rintro e w1 ⟨rfl, hb1⟩
  have B0 := ((Below.refl w.heap.size w).alloc (Nat.le_refl _) (.cells #[.int .i64 b, .int .i64 l, .int .i64 m, .int .i64 c, .int .i64 i, .int .i64 g, .int .i64 f, .int .i64 t, .int .i64 n, .int .i64 v] 23)).alloc (by simp) (.cells #[.int .i64 b, .int .i64 l, .int .i64 m, .int .i64 c, .int .i64 i, .int .i64 g, .int .i64 f, .int .i64 t, .int .i64 n, .int .i64 v] 23)
  have B1 := below_chain B0 hb1 B0.size
  have hr0 := (rowAt_alloc w #[.int .i64 b, .int .i64 l, .int .i64 m, .int .i64 c, .int .i64 i, .int .i64 g, .int .i64 f, .int .i64 t, .int .i64 n, .int .i64 v] 23).alloc (.cells #[.int .i64 b, .int .i64 l, .int .i64 m, .int .i64 c, .int .i64 i, .int .i64 g, .int .i64 f, .int .i64 t, .int .i64 n, .int .i64 v] 23)
  have hx0 := rowAt_alloc (w.alloc (.cells #[.int .i64 b, .int .i64 l, .int .i64 m, .int .i64 c, .int .i64 i, .int .i64 g, .int .i64 f, .int .i64 t, .int .i64 n, .int .i64 v] 23)) #[.int .i64 b, .int .i64 l, .int .i64 m, .int .i64 c, .int .i64 i, .int .i64 g, .int .i64 f, .int .i64 t, .int .i64 n, .int .i64 v] 23
  simp only [World.size_alloc] at hx0
  have hr1 := hr0.below hb1 hr0.lt
  have hx1 := hx0.below hb1 hx0.lt
  have hl1 := hr1.lt
  have hm1 := hx1.lt
  obtain ⟨c0, c1, c2, c3, c4, c5, c6, c7, c8, c9⟩ := sup_cells hr1
  obtain ⟨d0, d1, d2, d3, d4, d5, d6, d7, d8, d9⟩ := sup_cells hx1
  go_wp2_with fail
  refine (HC2.out _).mono ?_
  rintro e w2 ⟨rfl, hb2⟩
  have B2 := below_chain B1 hb2 B1.size
  have hr2 := hr1.below hb2 hr1.lt
  have hx2 := hx1.below hb2 hx1.lt
  clear c0 c1 c2 c3 c4 c5 c6 c7 c8 c9 d0 d1 d2 d3 d4 d5 d6 d7 d8 d9
  have hl2 := hr2.lt
  have hm2 := hx2.lt
  obtain ⟨c0, c1, c2, c3, c4, c5, c6, c7, c8, c9⟩ := sup_cells hr2
  obtain ⟨d0, d1, d2, d3, d4, d5, d6, d7, d8, d9⟩ := sup_cells hx2
  go_wp2_with fail
  refine wp_loop_rounds 11 ?_
  rw [rounds_succ]
  go_wp2_with fail
  go_quiet (fail)
  go_wp2_with fail
  rw [rounds_succ]
  go_wp2_with fail
  go_quiet (fail)
  go_wp2_with fail
  rw [rounds_succ]
  go_wp2_with fail
  go_quiet (fail)
  go_wp2_with fail
  rw [rounds_succ]
  go_wp2_with fail
  go_quiet (fail)
  go_wp2_with fail
  rw [rounds_succ]
  go_wp2_with fail
  go_quiet (fail)
  go_wp2_with fail
  rw [rounds_succ]
  go_wp2_with fail
  go_quiet (fail)
  go_wp2_with fail
  rw [rounds_succ]
  go_wp2_with fail
  go_quiet (fail)
  go_wp2_with fail
  rw [rounds_succ]
  go_wp2_with fail
  go_quiet (fail)
  go_wp2_with fail
  rw [rounds_succ]
  go_wp2_with fail
  go_quiet (fail)
  go_wp2_with fail
  rw [rounds_succ]
  go_wp2_with fail
  go_quiet (fail)
  go_wp2_with fail
  rw [rounds_succ]
  go_wp2_with fail
  go_still_tail 12, (by kernel_rfl)
  change wpList _ _ _ _ _ (World.drew _)
  go_wp2_with fail
  refine (alive10 _).mono ?_
  rintro e w3 ⟨rfl, hb3⟩
  have B2a := B2.alloc B2.size (.cells #[.bool true, .bool true, .bool true, .bool true, .bool true, .bool true, .bool true, .bool true, .bool true, .bool true] 32)
  have B3 := (B2a.trans (below_le (below_draws _ _ _) B2a.size)).trans (below_le hb3 (by simp; have := B2.size; omega))
  go_wp2_with fail
  go_ret
  exact ⟨rfl, B3⟩

set_option maxHeartbeats 4000000 in
theorem supFields_other (w : World) (b l m c i g f t n v b' l' m' c' i' g' f' t' n' v' : Int) (P Q : ByteArray) (hP : P.size = 128) (hQ : Q.size = 128)
    (HC1 : RowKit.Hid (∀ W, Calls Try.prog 15 #[sv b l m c i g f t n v] W fun e w' => e = .returned (.tuple #[.string P, .int .i64 0]) ∧ Below W.heap.size W w'))
    (HC2 : RowKit.Hid (∀ W, Calls Try.prog 15 #[sv b' l' m' c' i' g' f' t' n' v'] W fun e w' => e = .returned (.tuple #[.string Q, .int .i64 0]) ∧ Below W.heap.size W w'))
    (q0 : ((P.extract 8 12).toList == (Q.extract 8 12).toList) = (b == b'))
    (q1 : ((P.extract 12 16).toList == (Q.extract 12 16).toList) = (l == l'))
    (q2 : ((P.extract 16 20).toList == (Q.extract 16 20).toList) = (m == m'))
    (q3 : ((P.extract 20 24).toList == (Q.extract 20 24).toList) = (c == c'))
    (q4 : ((P.extract 24 28).toList == (Q.extract 24 28).toList) = (i == i'))
    (q5 : ((P.extract 28 32).toList == (Q.extract 28 32).toList) = (g == g'))
    (q6 : ((P.extract 32 36).toList == (Q.extract 32 36).toList) = (f == f'))
    (q7 : ((P.extract 36 40).toList == (Q.extract 36 40).toList) = (t == t'))
    (q8 : ((P.extract 40 44).toList == (Q.extract 40 44).toList) = (n == n'))
    (q9 : ((P.extract 44 48).toList == (Q.extract 44 48).toList) = (v == v'))
    (q13 : ∀ w, (Op.equalIn 10000 23 (.agg #[.int .i64 b, .int .i64 l, .int .i64 m, .int .i64 c, .int .i64 i, .int .i64 g, .int .i64 f, .int .i64 t, .int .i64 n, .int .i64 v]) (.agg #[.int .i64 b', .int .i64 l', .int .i64 m', .int .i64 c', .int .i64 i', .int .i64 g', .int .i64 f', .int .i64 t', .int .i64 n', .int .i64 v'])).run Try.prog w = .ok false w)
    (q10 : ((P.extract 0 8).toList == (Q.extract 0 8).toList) = true) (q11 : ((P.extract 48 128).toList == (Q.extract 48 128).toList) = true) (q12 : (P.toList == Q.toList) = false) :
    Calls Try.prog 5 #[sv b l m c i g f t n v, sv b' l' m' c' i' g' f' t' n' v'] w fun e w' => e = .returned (.bool true) ∧ Below w.heap.size w w' := by
  go_enter Try.func5, Try.ntmps5
  go_wp2_with fail
  refine (HC1.out _).mono ?_
  rintro e w1 ⟨rfl, hb1⟩
  have B0 := ((Below.refl w.heap.size w).alloc (Nat.le_refl _) (.cells #[.int .i64 b, .int .i64 l, .int .i64 m, .int .i64 c, .int .i64 i, .int .i64 g, .int .i64 f, .int .i64 t, .int .i64 n, .int .i64 v] 23)).alloc (by simp) (.cells #[.int .i64 b', .int .i64 l', .int .i64 m', .int .i64 c', .int .i64 i', .int .i64 g', .int .i64 f', .int .i64 t', .int .i64 n', .int .i64 v'] 23)
  have B1 := below_chain B0 hb1 B0.size
  have hr0 := (rowAt_alloc w #[.int .i64 b, .int .i64 l, .int .i64 m, .int .i64 c, .int .i64 i, .int .i64 g, .int .i64 f, .int .i64 t, .int .i64 n, .int .i64 v] 23).alloc (.cells #[.int .i64 b', .int .i64 l', .int .i64 m', .int .i64 c', .int .i64 i', .int .i64 g', .int .i64 f', .int .i64 t', .int .i64 n', .int .i64 v'] 23)
  have hx0 := rowAt_alloc (w.alloc (.cells #[.int .i64 b, .int .i64 l, .int .i64 m, .int .i64 c, .int .i64 i, .int .i64 g, .int .i64 f, .int .i64 t, .int .i64 n, .int .i64 v] 23)) #[.int .i64 b', .int .i64 l', .int .i64 m', .int .i64 c', .int .i64 i', .int .i64 g', .int .i64 f', .int .i64 t', .int .i64 n', .int .i64 v'] 23
  simp only [World.size_alloc] at hx0
  have hr1 := hr0.below hb1 hr0.lt
  have hx1 := hx0.below hb1 hx0.lt
  have hl1 := hr1.lt
  have hm1 := hx1.lt
  obtain ⟨c0, c1, c2, c3, c4, c5, c6, c7, c8, c9⟩ := sup_cells hr1
  obtain ⟨d0, d1, d2, d3, d4, d5, d6, d7, d8, d9⟩ := sup_cells hx1
  go_wp2_with fail
  refine (HC2.out _).mono ?_
  rintro e w2 ⟨rfl, hb2⟩
  have B2 := below_chain B1 hb2 B1.size
  have hr2 := hr1.below hb2 hr1.lt
  have hx2 := hx1.below hb2 hx1.lt
  clear c0 c1 c2 c3 c4 c5 c6 c7 c8 c9 d0 d1 d2 d3 d4 d5 d6 d7 d8 d9
  have hl2 := hr2.lt
  have hm2 := hx2.lt
  obtain ⟨c0, c1, c2, c3, c4, c5, c6, c7, c8, c9⟩ := sup_cells hr2
  obtain ⟨d0, d1, d2, d3, d4, d5, d6, d7, d8, d9⟩ := sup_cells hx2
  go_wp2_with fail
  refine wp_loop_rounds 11 ?_
  rw [rounds_succ]
  go_wp2_with fail
  go_quiet (fail)
  go_wp2_with fail
  rw [rounds_succ]
  go_wp2_with fail
  go_quiet (fail)
  go_wp2_with fail
  rw [rounds_succ]
  go_wp2_with fail
  go_quiet (fail)
  go_wp2_with fail
  rw [rounds_succ]
  go_wp2_with fail
  go_quiet (fail)
  go_wp2_with fail
  rw [rounds_succ]
  go_wp2_with fail
  go_quiet (fail)
  go_wp2_with fail
  rw [rounds_succ]
  go_wp2_with fail
  go_quiet (fail)
  go_wp2_with fail
  rw [rounds_succ]
  go_wp2_with fail
  go_quiet (fail)
  go_wp2_with fail
  rw [rounds_succ]
  go_wp2_with fail
  go_quiet (fail)
  go_wp2_with fail
  rw [rounds_succ]
  go_wp2_with fail
  go_quiet (fail)
  go_wp2_with fail
  rw [rounds_succ]
  go_wp2_with fail
  go_quiet (fail)
  go_wp2_with fail
  rw [rounds_succ]
  go_wp2_with fail
  go_still_tail 12, (by kernel_rfl)
  change wpList _ _ _ _ _ (World.drew _)
  go_wp2_with fail
  refine (alive10 _).mono ?_
  rintro e w3 ⟨rfl, hb3⟩
  have B2a := B2.alloc B2.size (.cells #[.bool (b == b'), .bool (l == l'), .bool (m == m'), .bool (c == c'), .bool (i == i'), .bool (g == g'), .bool (f == f'), .bool (t == t'), .bool (n == n'), .bool (v == v')] 32)
  have B3 := (B2a.trans (below_le (below_draws _ _ _) B2a.size)).trans (below_le hb3 (by simp; have := B2.size; omega))
  go_wp2_with fail
  go_ret
  exact ⟨rfl, B3⟩

set_option maxHeartbeats 1000000 in
theorem supFields_no1 (w : World) (b l m c i g f t n v b' l' m' c' i' g' f' t' n' v' : Int) (P Q : ByteArray)
    (HC1 : RowKit.Hid (∀ W, Calls Try.prog 15 #[sv b l m c i g f t n v] W fun e w' => e = .returned (.tuple #[.string P, .int .i64 0]) ∧ Below W.heap.size W w'))
    (HC2 : RowKit.Hid (∀ W, Calls Try.prog 15 #[sv b' l' m' c' i' g' f' t' n' v'] W fun e w' => e = .returned (.tuple #[.string Q, .int .i64 2]) ∧ Below W.heap.size W w')) :
    Calls Try.prog 5 #[sv b l m c i g f t n v, sv b' l' m' c' i' g' f' t' n' v'] w fun e w' => e = .returned (.bool true) ∧ Below w.heap.size w w' := by
  go_enter Try.func5, Try.ntmps5
  go_wp2_with fail
  refine (HC1.out _).mono ?_
  rintro e w1 ⟨rfl, hb1⟩
  have B0 := ((Below.refl w.heap.size w).alloc (Nat.le_refl _) (.cells #[.int .i64 b, .int .i64 l, .int .i64 m, .int .i64 c, .int .i64 i, .int .i64 g, .int .i64 f, .int .i64 t, .int .i64 n, .int .i64 v] 23)).alloc (by simp) (.cells #[.int .i64 b', .int .i64 l', .int .i64 m', .int .i64 c', .int .i64 i', .int .i64 g', .int .i64 f', .int .i64 t', .int .i64 n', .int .i64 v'] 23)
  have B1 := below_chain B0 hb1 B0.size
  have hx0 := rowAt_alloc (w.alloc (.cells #[.int .i64 b, .int .i64 l, .int .i64 m, .int .i64 c, .int .i64 i, .int .i64 g, .int .i64 f, .int .i64 t, .int .i64 n, .int .i64 v] 23)) #[.int .i64 b', .int .i64 l', .int .i64 m', .int .i64 c', .int .i64 i', .int .i64 g', .int .i64 f', .int .i64 t', .int .i64 n', .int .i64 v'] 23
  simp only [World.size_alloc] at hx0
  have hx1 := hx0.below hb1 hx0.lt
  have hm1 := hx1.lt
  obtain ⟨d0, d1, d2, d3, d4, d5, d6, d7, d8, d9⟩ := sup_cells hx1
  go_wp2_with fail
  refine (HC2.out _).mono ?_
  rintro e w2 ⟨rfl, hb2⟩
  have B2 := below_chain B1 hb2 B1.size
  go_wp2_with fail
  refine (alive10 _).mono ?_
  rintro e w3 ⟨rfl, hb3⟩
  have B3 := below_chain B2 hb3 B2.size
  go_wp2_with fail
  go_ret
  exact ⟨rfl, B3⟩

set_option maxHeartbeats 1000000 in
theorem supFields_no2 (w : World) (b l m c i g f t n v b' l' m' c' i' g' f' t' n' v' : Int) (P Q : ByteArray)
    (HC1 : RowKit.Hid (∀ W, Calls Try.prog 15 #[sv b l m c i g f t n v] W fun e w' => e = .returned (.tuple #[.string P, .int .i64 2]) ∧ Below W.heap.size W w'))
    (HC2 : RowKit.Hid (∀ W, Calls Try.prog 15 #[sv b' l' m' c' i' g' f' t' n' v'] W fun e w' => e = .returned (.tuple #[.string Q, .int .i64 0]) ∧ Below W.heap.size W w')) :
    Calls Try.prog 5 #[sv b l m c i g f t n v, sv b' l' m' c' i' g' f' t' n' v'] w fun e w' => e = .returned (.bool true) ∧ Below w.heap.size w w' := by
  go_enter Try.func5, Try.ntmps5
  go_wp2_with fail
  refine (HC1.out _).mono ?_
  rintro e w1 ⟨rfl, hb1⟩
  have B0 := ((Below.refl w.heap.size w).alloc (Nat.le_refl _) (.cells #[.int .i64 b, .int .i64 l, .int .i64 m, .int .i64 c, .int .i64 i, .int .i64 g, .int .i64 f, .int .i64 t, .int .i64 n, .int .i64 v] 23)).alloc (by simp) (.cells #[.int .i64 b', .int .i64 l', .int .i64 m', .int .i64 c', .int .i64 i', .int .i64 g', .int .i64 f', .int .i64 t', .int .i64 n', .int .i64 v'] 23)
  have B1 := below_chain B0 hb1 B0.size
  have hx0 := rowAt_alloc (w.alloc (.cells #[.int .i64 b, .int .i64 l, .int .i64 m, .int .i64 c, .int .i64 i, .int .i64 g, .int .i64 f, .int .i64 t, .int .i64 n, .int .i64 v] 23)) #[.int .i64 b', .int .i64 l', .int .i64 m', .int .i64 c', .int .i64 i', .int .i64 g', .int .i64 f', .int .i64 t', .int .i64 n', .int .i64 v'] 23
  simp only [World.size_alloc] at hx0
  have hx1 := hx0.below hb1 hx0.lt
  have hm1 := hx1.lt
  obtain ⟨d0, d1, d2, d3, d4, d5, d6, d7, d8, d9⟩ := sup_cells hx1
  go_wp2_with fail
  refine (HC2.out _).mono ?_
  rintro e w2 ⟨rfl, hb2⟩
  have B2 := below_chain B1 hb2 B1.size
  go_wp2_with fail
  refine (alive10 _).mono ?_
  rintro e w3 ⟨rfl, hb3⟩
  have B3 := below_chain B2 hb3 B2.size
  go_wp2_with fail
  go_ret
  exact ⟨rfl, B3⟩

set_option maxHeartbeats 1000000 in
theorem supFields_no3 (w : World) (b l m c i g f t n v b' l' m' c' i' g' f' t' n' v' : Int) (P Q : ByteArray)
    (HC1 : RowKit.Hid (∀ W, Calls Try.prog 15 #[sv b l m c i g f t n v] W fun e w' => e = .returned (.tuple #[.string P, .int .i64 2]) ∧ Below W.heap.size W w'))
    (HC2 : RowKit.Hid (∀ W, Calls Try.prog 15 #[sv b' l' m' c' i' g' f' t' n' v'] W fun e w' => e = .returned (.tuple #[.string Q, .int .i64 2]) ∧ Below W.heap.size W w')) :
    Calls Try.prog 5 #[sv b l m c i g f t n v, sv b' l' m' c' i' g' f' t' n' v'] w fun e w' => e = .returned (.bool true) ∧ Below w.heap.size w w' := by
  go_enter Try.func5, Try.ntmps5
  go_wp2_with fail
  refine (HC1.out _).mono ?_
  rintro e w1 ⟨rfl, hb1⟩
  have B0 := ((Below.refl w.heap.size w).alloc (Nat.le_refl _) (.cells #[.int .i64 b, .int .i64 l, .int .i64 m, .int .i64 c, .int .i64 i, .int .i64 g, .int .i64 f, .int .i64 t, .int .i64 n, .int .i64 v] 23)).alloc (by simp) (.cells #[.int .i64 b', .int .i64 l', .int .i64 m', .int .i64 c', .int .i64 i', .int .i64 g', .int .i64 f', .int .i64 t', .int .i64 n', .int .i64 v'] 23)
  have B1 := below_chain B0 hb1 B0.size
  have hx0 := rowAt_alloc (w.alloc (.cells #[.int .i64 b, .int .i64 l, .int .i64 m, .int .i64 c, .int .i64 i, .int .i64 g, .int .i64 f, .int .i64 t, .int .i64 n, .int .i64 v] 23)) #[.int .i64 b', .int .i64 l', .int .i64 m', .int .i64 c', .int .i64 i', .int .i64 g', .int .i64 f', .int .i64 t', .int .i64 n', .int .i64 v'] 23
  simp only [World.size_alloc] at hx0
  have hx1 := hx0.below hb1 hx0.lt
  have hm1 := hx1.lt
  obtain ⟨d0, d1, d2, d3, d4, d5, d6, d7, d8, d9⟩ := sup_cells hx1
  go_wp2_with fail
  refine (HC2.out _).mono ?_
  rintro e w2 ⟨rfl, hb2⟩
  have B2 := below_chain B1 hb2 B1.size
  go_wp2_with fail
  refine (alive10 _).mono ?_
  rintro e w3 ⟨rfl, hb3⟩
  have B3 := below_chain B2 hb3 B2.size
  go_wp2_with fail
  go_ret
  exact ⟨rfl, B3⟩

theorem walk_supersFields (w : World) (b l m c i g f t n v : Int) (_ : ∀ z ∈ [b, l, m, c, i, g, f, t, n, v], -9223372036854775808 ≤ z ∧ z ≤ 9223372036854775807) (b' l' m' c' i' g' f' t' n' v' : Int) (_ : ∀ z ∈ [b', l', m', c', i', g', f', t', n', v'], -9223372036854775808 ≤ z ∧ z ≤ 9223372036854775807) :
    Calls Try.prog 5 #[sv b l m c i g f t n v, sv b' l' m' c' i' g' f' t' n' v'] w fun e w' => e = .returned (.bool true) ∧ Below w.heap.size w w' := by
  by_cases hx : superOk b l m c i g f t n v = true
  · by_cases hy : superOk b' l' m' c' i' g' f' t' n' v' = true
    · by_cases he : [b, l, m, c, i, g, f, t, n, v] = [b', l', m', c', i', g', f', t', n', v']
      · injection he with e0 he; injection he with e1 he; injection he with e2 he; injection he with e3 he; injection he with e4 he; injection he with e5 he; injection he with e6 he; injection he with e7 he; injection he with e8 he; injection he with e9 he
        subst e0 e1 e2 e3 e4 e5 e6 e7 e8 e9
        exact supFields_same w b l m c i g f t n v _ (encV_size _ rfl) (Lib.hid (fun W => enc_yes b l m c i g f t n v W hx)) (Lib.hid (fun W => enc_yes b l m c i g f t n v W hx))
      · have sx := superOk_small hx
        have sy := superOk_small hy
        have fs := fun k hk => field_same [b, l, m, c, i, g, f, t, n, v] [b', l', m', c', i', g', f', t', n', v'] rfl rfl sx sy k hk
        refine supFields_other w b l m c i g f t n v b' l' m' c' i' g' f' t' n' v' _ _ (encV_size _ rfl) (encV_size _ rfl) (Lib.hid (fun W => enc_yes b l m c i g f t n v W hx)) (Lib.hid (fun W => enc_yes b' l' m' c' i' g' f' t' n' v' W hy)) (fs 0 (by omega)) (fs 1 (by omega)) (fs 2 (by omega)) (fs 3 (by omega)) (fs 4 (by omega)) (fs 5 (by omega)) (fs 6 (by omega)) (fs 7 (by omega)) (fs 8 (by omega)) (fs 9 (by omega)) ?_ (head_same _ _) (tail_same _ _ rfl rfl) ?_
        · intro W
          rw [eq_super]
          have : ((b == b' && (l == l' && (m == m' && (c == c' && (i == i' && (g == g' && (f == f' && (t == t' && (n == n' && (v == v'))))))))))) = false := by
            rw [Bool.eq_false_iff]
            intro q
            simp only [Bool.and_eq_true, beq_iff_eq] at q
            obtain ⟨e0, e1, e2, e3, e4, e5, e6, e7, e8, e9⟩ := q
            exact he (by rw [e0, e1, e2, e3, e4, e5, e6, e7, e8, e9])
          rw [this]
        · rw [same_bytes _ _ _ (encV_inj _ _ rfl rfl sx sy)]
          exact decide_eq_false he
    · exact supFields_no1 w b l m c i g f t n v b' l' m' c' i' g' f' t' n' v' _ _ (Lib.hid (fun W => enc_yes b l m c i g f t n v W hx)) (Lib.hid (fun W => enc_no b' l' m' c' i' g' f' t' n' v' W (by simpa using hy)))
  · by_cases hy : superOk b' l' m' c' i' g' f' t' n' v' = true
    · exact supFields_no2 w b l m c i g f t n v b' l' m' c' i' g' f' t' n' v' _ _ (Lib.hid (fun W => enc_no b l m c i g f t n v W (by simpa using hx))) (Lib.hid (fun W => enc_yes b' l' m' c' i' g' f' t' n' v' W hy))
    · exact supFields_no3 w b l m c i g f t n v b' l' m' c' i' g' f' t' n' v' _ _ (Lib.hid (fun W => enc_no b l m c i g f t n v W (by simpa using hx))) (Lib.hid (fun W => enc_no b' l' m' c' i' g' f' t' n' v' W (by simpa using hy)))

/-! ### the frame (printed by mklaw.py) -/

set_option maxRecDepth 100000 in
theorem lifted_supersFields (os : Os) (started : os.Started) (H : Type) (enc : TypeId × Value → H) :
    ReturnsInHanded {} Try.checked os 5 .any (Rows.supersFieldsSpec.pre6 enc Try.prog Try.f5 Rows.supersFieldsRow.domain false) (Rows.supersFieldsSpec.post enc Try.prog Try.f5 false true false false) := by
  refine law_step (C := Try.checked) (tb := 4) (by kernel_rfl) (by kernel_rfl) started (by kernel_rfl) Try.func5 rfl Try.underlying4 rfl ?_ ?_
    (ChangeSpec.witness6 (enc := enc) (C := Try.checked) false ⟨#[], #[.agg #[.int .i64 0, .int .i64 0, .int .i64 0, .int .i64 0, .int .i64 0, .int .i64 0, .int .i64 0, .int .i64 0, .int .i64 0, .int .i64 0], .agg #[.int .i64 0, .int .i64 0, .int .i64 0, .int .i64 0, .int .i64 0, .int .i64 0, .int .i64 0, .int .i64 0, .int .i64 0, .int .i64 0]], []⟩ 8 (by kernel_rfl) (by kernel_rfl) (by kernel_rfl) (by kernel_rfl)) ?_
  · intro ds hl
    match ds, hl with
    | [d0, d1], _ => rfl
  · intro t ht
    rw [show Try.f5.params.toList = [23, 23] from by rw [Try.params5]] at ht
    simp only [List.mem_cons, List.not_mem_nil, or_false] at ht
    rcases ht with rfl | rfl
    · exact ⟨by kernel_rfl, of_decide_eq_true (by kernel_rfl)⟩
    · exact ⟨by kernel_rfl, of_decide_eq_true (by kernel_rfl)⟩
  · intro W args hG
    rw [show Try.f5.params.toList = [23, 23] from by rw [Try.params5]] at hG
    obtain ⟨v0, v1, rfl, g0, g1⟩ := gotAll_args2 hG
    obtain ⟨zs0, rfl, zl0, zh0⟩ := got_flat (k := .i64) (n := 10) (by kernel_rfl) g0
    obtain ⟨z0_0, z0_1, z0_2, z0_3, z0_4, z0_5, z0_6, z0_7, z0_8, z0_9, rfl⟩ : ∃ z0_0 z0_1 z0_2 z0_3 z0_4 z0_5 z0_6 z0_7 z0_8 z0_9, zs0 = [z0_0, z0_1, z0_2, z0_3, z0_4, z0_5, z0_6, z0_7, z0_8, z0_9] := by
      match zs0, zl0 with
      | [z0_0, z0_1, z0_2, z0_3, z0_4, z0_5, z0_6, z0_7, z0_8, z0_9], _ => exact ⟨z0_0, z0_1, z0_2, z0_3, z0_4, z0_5, z0_6, z0_7, z0_8, z0_9, rfl⟩
    obtain ⟨zs1, rfl, zl1, zh1⟩ := got_flat (k := .i64) (n := 10) (by kernel_rfl) g1
    obtain ⟨z1_0, z1_1, z1_2, z1_3, z1_4, z1_5, z1_6, z1_7, z1_8, z1_9, rfl⟩ : ∃ z1_0 z1_1 z1_2 z1_3 z1_4 z1_5 z1_6 z1_7 z1_8 z1_9, zs1 = [z1_0, z1_1, z1_2, z1_3, z1_4, z1_5, z1_6, z1_7, z1_8, z1_9] := by
      match zs1, zl1 with
      | [z1_0, z1_1, z1_2, z1_3, z1_4, z1_5, z1_6, z1_7, z1_8, z1_9], _ => exact ⟨z1_0, z1_1, z1_2, z1_3, z1_4, z1_5, z1_6, z1_7, z1_8, z1_9, rfl⟩
    exact walk_supersFields W z0_0 z0_1 z0_2 z0_3 z0_4 z0_5 z0_6 z0_7 z0_8 z0_9 (fun z hz => has_i64 (zh0 z hz)) z1_0 z1_1 z1_2 z1_3 z1_4 z1_5 z1_6 z1_7 z1_8 z1_9 (fun z hz => has_i64 (zh1 z hz))

theorem supersFields_over : Rows.supersFieldsRow.holds Try.pinned (OpenSpec.ofChange Rows.supersFieldsSpec) :=
  OpenClaim.holds_of_wide 5 Try.f5 rfl rfl rfl rfl rfl rfl rfl ⟨rfl, rfl, rfl, rfl, rfl⟩ rfl rfl rfl rfl rfl (by kernel_rfl) Try.func5 (by kernel_rfl)
    (of_decide_eq_true (by kernel_rfl)) (by unfold Func.isWrapper; first | (rw [if_pos (by decide +kernel)]; kernel_rfl) | (rw [if_neg (by decide +kernel)]; exact ⟨rfl, rfl⟩))
    (fun os started H enc _ => lifted_supersFields os started H enc)

theorem supersFields_holds : Rows.SupersFieldsSaid := supersFields_over
#print axioms supersFields_holds

end Go.Proofs.Ytdinekhpfimohaa
