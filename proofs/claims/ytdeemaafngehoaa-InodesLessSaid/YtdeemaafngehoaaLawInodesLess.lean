/- For every input the law glissadelaw11.InodesLess returns true. -/
import Derived.Deep.RegionHeld3
import Derived.Test.YtdeemaafngehoaaInoWalks5
import Derived.Test.YtdeemaafngehoaaInoAlive
import Derived.Test.YtdeemaafngehoaaFrame
set_option linter.unusedVariables false
set_option linter.unusedSimpArgs false
set_option maxRecDepth 100000
namespace Go.Proofs.Ytdeemaafngehoaa
open Go.RowKit Go.Joins

theorem rowOk_take {es : List (Int × Int × Int)} {leaf : Bool} (h : rowOk es leaf = true) (m : Nat) : rowOk (es.take m) leaf = true := by
  rw [rowOk, List.all_eq_true] at h
  refine rowOk_yes fun k hk => ?_
  rw [List.length_take] at hk
  have := h k (List.mem_range.2 (by omega))
  unfold stepOk at this ⊢
  rw [List.getElem?_take_of_lt (by omega)]
  cases k with
  | zero => simpa using this
  | succ k =>
    have e : (es.take m)[k + 1 - 1]? = es[k + 1 - 1]? := List.getElem?_take_of_lt (by omega)
    rw [e]; exact this

theorem EntS.take {w : World} {a : Option Addr} {es : List (Int × Int × Int)} (h : EntS w a es) (m : Nat) : EntS w a (es.take m) := by
  rcases h with rfl | ⟨B, o, rfl, h1, h2⟩
  · exact .inl (by simp)
  · refine .inr ⟨B, o, rfl, h1, fun i hi => ?_⟩
    rw [List.length_take] at hi
    rw [List.getElem_take]
    exact h2 i (by omega)

theorem less_last {x : Ino} (h : x.ok = true) (hk : x.k ≠ 0) (m : Nat) (hm : m < x.es.length) : (Ino.mk x.k x.p x.l x.s x.d (x.es.take m)).ok = (decide (0 < m) || x.d == 0) := by
  rcases x.ok_iff.1 h with ⟨h1, _⟩ | ⟨h1, h2, h3, h4, h5, h6, h7, h8, h9, h10⟩
  · exact absurd h1 hk
  · rw [Bool.eq_iff_iff, Ino.ok_iff, Bool.or_eq_true, decide_eq_true_eq, beq_iff_eq]
    constructor
    · rintro (⟨h1, _⟩ | ⟨_, _, _, _, _, _, _, _, h, _⟩)
      · exact absurd h1 hk
      · simp only [List.length_take] at h
        rcases h with h | h
        · exact .inr h
        · exact .inl (by omega)
    · intro h
      refine .inr ⟨h1, h2, h3, h4, h5, h6, h7, by simp; omega, ?_, rowOk_take h10 m⟩
      simp only [List.length_take]
      rcases h with h | h
      · exact .inr (by omega)
      · exact .inl h

theorem less_links {x : Ino} (h : x.ok = true) (hk : x.k ≠ 0) (b : Bool) (links : Int) : (Ino.mk (3 - x.k) b links x.s x.d x.es).ok = (decide (0 ≤ links) && decide (links ≤ 100)) := by
  rcases x.ok_iff.1 h with ⟨h1, _⟩ | ⟨h1, h2, h3, h4, h5, h6, h7, h8, h9, h10⟩
  · exact absurd h1 hk
  · rw [Bool.eq_iff_iff, Ino.ok_iff, Bool.and_eq_true, decide_eq_true_eq, decide_eq_true_eq]
    constructor
    · rintro (⟨h1', _⟩ | ⟨_, h, h', _⟩)
      · have : 3 - x.k = 0 := h1'
        omega
      · exact ⟨h, h'⟩
    · rintro ⟨h, h'⟩
      refine .inr ⟨?_, h, h', h4, h5, h6, h7, h8, h9, h10⟩
      show 3 - x.k = 1 ∨ 3 - x.k = 2
      omega

theorem less_size {x : Ino} (h : x.ok = true) (hk : x.k ≠ 0) (b : Bool) (size : Int) : (Ino.mk (3 - x.k) b x.l size x.d x.es).ok = (decide (0 ≤ size) && decide (size ≤ 262144)) := by
  rcases x.ok_iff.1 h with ⟨h1, _⟩ | ⟨h1, h2, h3, h4, h5, h6, h7, h8, h9, h10⟩
  · exact absurd h1 hk
  · rw [Bool.eq_iff_iff, Ino.ok_iff, Bool.and_eq_true, decide_eq_true_eq, decide_eq_true_eq]
    constructor
    · rintro (⟨h1', _⟩ | ⟨_, _, _, h, h', _⟩)
      · have : 3 - x.k = 0 := h1'
        omega
      · exact ⟨h, h'⟩
    · rintro ⟨h, h'⟩
      refine .inr ⟨?_, h2, h3, h, h', h6, h7, h8, h9, h10⟩
      show 3 - x.k = 1 ∨ 3 - x.k = 2
      omega

set_option maxHeartbeats 1000000 in
theorem inoLess_skip (w : World) (k : Int) (p : Bool) (l sz d : Int) (a : Option Addr) (n cap : Nat) (links size : Int) (ok : Bool) (hs : 1000 < n ∨ n ≤ 1000 ∧ (ok = false ∨ ok = true ∧ k = 0))
    (HK0 : n ≤ 1000 → Hid (∀ W, Below w.heap.size w W → Calls Try.prog 19 #[iv k p l sz d a n cap] W fun e w' => e = .returned (.bool ok) ∧ Below W.heap.size W w')) :
    Calls Try.prog 6 #[iv k p l sz d a n cap, .int .i64 links, .int .i64 size] w fun e w' => e = .returned (.bool true) ∧ Below w.heap.size w w' := by
  have HA := Lib.hid alive11
  have B0 : Below w.heap.size w (w.alloc (.cells #[.int .i64 k, .bool p, .int .i64 l, .int .i64 sz, .int .i64 d, .slice a n cap] 24)) := (Below.refl w.heap.size w).alloc (Nat.le_refl _) _
  have r0 := rowAt_alloc w #[.int .i64 k, .bool p, .int .i64 l, .int .i64 sz, .int .i64 d, .slice a n cap] 24
  rcases hs with h | ⟨h, h'⟩
  · have hn : (1000 : Int) < (n : Int) := by omega
    go_enter Try.func6, Try.ntmps6
    go_wp2_with fail
    refine (HA.out _).mono ?_
    rintro e w5 ⟨rfl, hb5⟩
    have B5 := below_chain B0 hb5 B0.size
    go_wp2_with fail
    go_ret
    exact ⟨rfl, B5⟩
  · have HK := HK0 h
    clear HK0
    have hn : ¬ (1000 : Int) < (n : Int) := by omega
    rcases h' with rfl | ⟨rfl, rfl⟩
    all_goals
      go_enter Try.func6, Try.ntmps6
      go_wp2_with fail
      refine (HK.out _ B0).mono ?_
      rintro e w4 ⟨rfl, hb4⟩
      have B4 := below_chain B0 hb4 B0.size
      have r4 := r0.below hb4 r0.lt
      obtain ⟨c0, c1, c2, c3, c4, c5⟩ := six_cells r4
      go_wp2_with fail
      refine (HA.out _).mono ?_
      rintro e w5 ⟨rfl, hb5⟩
      have B5 := below_chain B4 hb5 B4.size
      go_wp2_with fail
      go_ret
      exact ⟨rfl, B5⟩

/-- two inodes' blocks -/
theorem twelve_keep {w0 W W' : World} {K L B : Nat} {xs ys : List Value} (h : RowAt W K xs ∧ RowAt W L ys ∧ Below B w0 W ∧ B ≤ W.heap.size) (hb : Below W.heap.size W W') : RowAt W' K xs ∧ RowAt W' L ys ∧ Below B w0 W' ∧ B ≤ W'.heap.size :=
  ⟨h.1.below hb h.1.lt, h.2.1.below hb h.2.1.lt, below_chain h.2.2.1 hb h.2.2.2, Nat.le_trans h.2.2.2 hb.size⟩

theorem less_keep {w W W' : World} {K : Nat} {k l sz d : Int} {p : Bool} {a : Option Addr} {n m cap : Nat} (h : W.cell? ⟨K, 0, none⟩ = some (.int .i64 k) ∧ W.cell? ⟨K, 1, none⟩ = some (.bool p) ∧ W.cell? ⟨K, 2, none⟩ = some (.int .i64 l) ∧ W.cell? ⟨K, 3, none⟩ = some (.int .i64 sz) ∧ W.cell? ⟨K, 4, none⟩ = some (.int .i64 d) ∧ W.cell? ⟨K, 5, none⟩ = some (.slice a m cap) ∧ W.cell? ⟨w.heap.size, 4, none⟩ = some (.int .i64 d) ∧ RowAt W w.heap.size [.int .i64 k, .bool p, .int .i64 l, .int .i64 sz, .int .i64 d, .slice a n cap] ∧ RowAt W K [.int .i64 k, .bool p, .int .i64 l, .int .i64 sz, .int .i64 d, .slice a m cap] ∧ Below w.heap.size w W ∧ w.heap.size ≤ W.heap.size) (hb : Below W.heap.size W W') : W'.cell? ⟨K, 0, none⟩ = some (.int .i64 k) ∧ W'.cell? ⟨K, 1, none⟩ = some (.bool p) ∧ W'.cell? ⟨K, 2, none⟩ = some (.int .i64 l) ∧ W'.cell? ⟨K, 3, none⟩ = some (.int .i64 sz) ∧ W'.cell? ⟨K, 4, none⟩ = some (.int .i64 d) ∧ W'.cell? ⟨K, 5, none⟩ = some (.slice a m cap) ∧ W'.cell? ⟨w.heap.size, 4, none⟩ = some (.int .i64 d) ∧ RowAt W' w.heap.size [.int .i64 k, .bool p, .int .i64 l, .int .i64 sz, .int .i64 d, .slice a n cap] ∧ RowAt W' K [.int .i64 k, .bool p, .int .i64 l, .int .i64 sz, .int .i64 d, .slice a m cap] ∧ Below w.heap.size w W' ∧ w.heap.size ≤ W'.heap.size := by
  obtain ⟨_, _, _, _, _, _, _, h1, h2, h3, h4⟩ := h
  have g1 := h1.below hb h1.lt
  have g2 := h2.below hb h2.lt
  obtain ⟨c0, c1, c2, c3, c4, c5⟩ := six_cells g2
  exact ⟨c0, c1, c2, c3, c4, c5, g1.cell 4 (by simp), g1, g2, below_chain h3 hb h4, Nat.le_trans h4 hb.size⟩
theorem less_ends {w W : World} {K : Nat} {k l sz d : Int} {p : Bool} {a : Option Addr} {n m cap : Nat} (h : W.cell? ⟨K, 0, none⟩ = some (.int .i64 k) ∧ W.cell? ⟨K, 1, none⟩ = some (.bool p) ∧ W.cell? ⟨K, 2, none⟩ = some (.int .i64 l) ∧ W.cell? ⟨K, 3, none⟩ = some (.int .i64 sz) ∧ W.cell? ⟨K, 4, none⟩ = some (.int .i64 d) ∧ W.cell? ⟨K, 5, none⟩ = some (.slice a m cap) ∧ W.cell? ⟨w.heap.size, 4, none⟩ = some (.int .i64 d) ∧ RowAt W w.heap.size [.int .i64 k, .bool p, .int .i64 l, .int .i64 sz, .int .i64 d, .slice a n cap] ∧ RowAt W K [.int .i64 k, .bool p, .int .i64 l, .int .i64 sz, .int .i64 d, .slice a m cap] ∧ Below w.heap.size w W ∧ w.heap.size ≤ W.heap.size) : RowAt W w.heap.size [.int .i64 k, .bool p, .int .i64 l, .int .i64 sz, .int .i64 d, .slice a n cap] ∧ Below w.heap.size w W :=
  ⟨h.2.2.2.2.2.2.2.1, h.2.2.2.2.2.2.2.2.2.1⟩

theorem less_keep1 {w W W' : World} {K : Nat} {k l sz d : Int} {p : Bool} {a : Option Addr} {n m cap : Nat} (h : W.cell? ⟨K, 0, none⟩ = some (.int .i64 k) ∧ W.cell? ⟨K, 1, none⟩ = some (.bool p) ∧ W.cell? ⟨K, 2, none⟩ = some (.int .i64 l) ∧ W.cell? ⟨K, 3, none⟩ = some (.int .i64 sz) ∧ W.cell? ⟨K, 4, none⟩ = some (.int .i64 d) ∧ W.cell? ⟨K, 5, none⟩ = some (.slice a m cap) ∧ RowAt W w.heap.size [.int .i64 k, .bool p, .int .i64 l, .int .i64 sz, .int .i64 d, .slice a n cap] ∧ RowAt W K [.int .i64 k, .bool p, .int .i64 l, .int .i64 sz, .int .i64 d, .slice a m cap] ∧ Below w.heap.size w W ∧ w.heap.size ≤ W.heap.size) (hb : Below W.heap.size W W') : W'.cell? ⟨K, 0, none⟩ = some (.int .i64 k) ∧ W'.cell? ⟨K, 1, none⟩ = some (.bool p) ∧ W'.cell? ⟨K, 2, none⟩ = some (.int .i64 l) ∧ W'.cell? ⟨K, 3, none⟩ = some (.int .i64 sz) ∧ W'.cell? ⟨K, 4, none⟩ = some (.int .i64 d) ∧ W'.cell? ⟨K, 5, none⟩ = some (.slice a m cap) ∧ RowAt W' w.heap.size [.int .i64 k, .bool p, .int .i64 l, .int .i64 sz, .int .i64 d, .slice a n cap] ∧ RowAt W' K [.int .i64 k, .bool p, .int .i64 l, .int .i64 sz, .int .i64 d, .slice a m cap] ∧ Below w.heap.size w W' ∧ w.heap.size ≤ W'.heap.size := by
  obtain ⟨_, _, _, _, _, _, h1, h2, h3, h4⟩ := h
  have g1 := h1.below hb h1.lt
  have g2 := h2.below hb h2.lt
  obtain ⟨c0, c1, c2, c3, c4, c5⟩ := six_cells g2
  exact ⟨c0, c1, c2, c3, c4, c5, g1, g2, below_chain h3 hb h4, Nat.le_trans h4 hb.size⟩
theorem less_ends1 {w W : World} {K : Nat} {k l sz d : Int} {p : Bool} {a : Option Addr} {n m cap : Nat} (h : W.cell? ⟨K, 0, none⟩ = some (.int .i64 k) ∧ W.cell? ⟨K, 1, none⟩ = some (.bool p) ∧ W.cell? ⟨K, 2, none⟩ = some (.int .i64 l) ∧ W.cell? ⟨K, 3, none⟩ = some (.int .i64 sz) ∧ W.cell? ⟨K, 4, none⟩ = some (.int .i64 d) ∧ W.cell? ⟨K, 5, none⟩ = some (.slice a m cap) ∧ RowAt W w.heap.size [.int .i64 k, .bool p, .int .i64 l, .int .i64 sz, .int .i64 d, .slice a n cap] ∧ RowAt W K [.int .i64 k, .bool p, .int .i64 l, .int .i64 sz, .int .i64 d, .slice a m cap] ∧ Below w.heap.size w W ∧ w.heap.size ≤ W.heap.size) : RowAt W w.heap.size [.int .i64 k, .bool p, .int .i64 l, .int .i64 sz, .int .i64 d, .slice a n cap] ∧ Below w.heap.size w W :=
  ⟨h.2.2.2.2.2.2.1, h.2.2.2.2.2.2.2.2.1⟩

set_option maxHeartbeats 4000000 in
theorem inoLess_core (w : World) (k : Int) (p : Bool) (l sz d : Int) (a : Option Addr) (n cap : Nat) (links size : Int) (hn : n ≤ 1000) (hc : n ≤ cap) (hk : k = 1 ∨ k = 2) (R : Bool)
    (HK : Hid (∀ W, Below w.heap.size w W → Calls Try.prog 19 #[iv k p l sz d a n cap] W fun e w' => e = .returned (.bool true) ∧ Below W.heap.size W w'))
    (HY : Hid (0 < n → ∀ W, Below w.heap.size w W → Calls Try.prog 19 #[iv k p l sz d a (n - 1) cap] W fun e w' => e = .returned (.bool R) ∧ Below W.heap.size W w'))
    (HR : 0 < n → (0 < n - 1 ∧ R = true ∨ n - 1 = 0 ∧ R = (d == 0)))
    (HL : Hid (∀ W, Below w.heap.size w W → Calls Try.prog 19 #[iv (3 - k) (!p) links sz d a n cap] W fun e w' => e = .returned (.bool (decide (0 ≤ links) && decide (links ≤ 100))) ∧ Below W.heap.size W w'))
    (HZ : Hid (∀ W, Below w.heap.size w W → Calls Try.prog 19 #[iv (3 - k) (!p) l size d a n cap] W fun e w' => e = .returned (.bool (decide (0 ≤ size) && decide (size ≤ 262144))) ∧ Below W.heap.size W w')) :
    Calls Try.prog 6 #[iv k p l sz d a n cap, .int .i64 links, .int .i64 size] w fun e w' => e = .returned (.bool true) ∧ Below w.heap.size w w' := by
  have HA := Lib.hid alive11
  have B0 : Below w.heap.size w (w.alloc (.cells #[.int .i64 k, .bool p, .int .i64 l, .int .i64 sz, .int .i64 d, .slice a n cap] 24)) := (Below.refl w.heap.size w).alloc (Nat.le_refl _) _
  have r0 := rowAt_alloc w #[.int .i64 k, .bool p, .int .i64 l, .int .i64 sz, .int .i64 d, .slice a n cap] 24
  have hn2 : ¬ (1000 : Int) < (n : Int) := by omega
  have hk1 : 1 ≤ k := by omega
  have hk2 : k ≤ 2 := by omega
  have hk0 : (k == 0) = false := by
    have : k ≠ 0 := by omega
    simpa using this
  clear hk
  by_cases hpos : 0 < n
  · have hYY := HY.out hpos
    have hRR := HR hpos
    have HY' := Lib.hid hYY
    clear hYY HY HR
    have hp1 : (0 : Int) < (n : Int) := by omega
    have e1 : ((n : Int) - 1) = ((n - 1 : Nat) : Int) := by omega
    have hle : ((n - 1 : Nat) : Int) ≤ (cap : Int) := by omega
    have hg0 : (0 : Int) ≤ ((n - 1 : Nat) : Int) := by omega
    rcases hRR with ⟨hq, rfl⟩ | ⟨hq, rfl⟩
    · go_enter Try.func6, Try.ntmps6
      go_wp2_with fail
      refine (HK.out _ B0).mono ?_
      rintro e w1 ⟨rfl, hb1⟩
      have B1 := below_chain B0 hb1 B0.size
      have r1 := r0.below hb1 r0.lt
      obtain ⟨c0, c1, c2, c3, c4, c5⟩ := six_cells r1
      have l1 := r1.lt
      go_wp2_with fail
      have B2 := B1.alloc B1.size (.cells #[.int .i64 k, .bool p, .int .i64 l, .int .i64 sz, .int .i64 d, .slice a (n - 1) cap] 24)
      have r2 := r1.alloc (.cells #[.int .i64 k, .bool p, .int .i64 l, .int .i64 sz, .int .i64 d, .slice a (n - 1) cap] 24)
      have y2 := rowAt_alloc w1 #[.int .i64 k, .bool p, .int .i64 l, .int .i64 sz, .int .i64 d, .slice a (n - 1) cap] 24
      generalize w1.alloc (.cells #[.int .i64 k, .bool p, .int .i64 l, .int .i64 sz, .int .i64 d, .slice a (n - 1) cap] 24) = W2 at *
      generalize w1.heap.size = K at *
      clear c0 c1 c2 c3 c4 c5 r0 r1 B1 hb1 l1 B0
      obtain ⟨c0, c1, c2, c3, c4, c5⟩ := six_cells y2
      have x4 := r2.cell 4 (by simp)
      have B2s : w.heap.size ≤ W2.heap.size := B2.size
      have hqi : (0 : Int) < ((n - 1 : Nat) : Int) := by omega
      clear x4
      first
        | (go_region_with (go_at_call 19; refine (HY'.out _ (by exact B2.drew)).mono ?_; rintro e w' ⟨rfl, hb'⟩; have y3 := y2.drew.below hb' y2.lt; have D5 := y3.cell 5 (by simp)))
        | fail
      all_goals
        have r3 := r2.drew.below hb' r2.lt
        have B3 := below_chain B2.drew hb' B2s
        obtain ⟨c0, c1, c2, c3, c4, c5⟩ := six_cells r3
        have l3 := r3.lt
        go_wp2_with fail
        have B4 := B3.alloc B3.size (.cells #[.int .i64 (3 - k), .bool (!p), .int .i64 links, .int .i64 sz, .int .i64 d, .slice a n cap] 24)
        have z4 := rowAt_alloc w' #[.int .i64 (3 - k), .bool (!p), .int .i64 links, .int .i64 sz, .int .i64 d, .slice a n cap] 24
        have r4 := r3.alloc (.cells #[.int .i64 (3 - k), .bool (!p), .int .i64 links, .int .i64 sz, .int .i64 d, .slice a n cap] 24)
        clear c0 c1 c2 c3 c4 c5
        refine (HL.out _ B4).mono ?_
        rintro e w5 ⟨rfl, hb5⟩
        have B5 := below_chain B4 hb5 B4.size
        have r5 := r4.below hb5 r4.lt
        have z5 := z4.below hb5 z4.lt
        clear B4 r4 z4 hb5
        obtain ⟨c0, c1, c2, c3, c4, c5⟩ := six_cells r5
        obtain ⟨d0, d1, d2, d3, d4, d5⟩ := six_cells z5
        have f2 := z5.frozen 2 (by simp)
        have f3 := z5.frozen 3 (by simp)
        have l5 := z5.lt
        have z6 := (z5.set 2 (.int .i64 l)).set 3 (.int .i64 size)
        have B6 : Below w.heap.size w ((w5.setCell ⟨w'.heap.size, 2, none⟩ (.int .i64 l)).setCell ⟨w'.heap.size, 3, none⟩ (.int .i64 size)) := (B5.setCell (by have := B3.size; simp; omega) _).setCell (by have := B3.size; simp; omega) _
        by_cases hl0 : 0 ≤ links
        · by_cases hl1 : links ≤ 100
          · have hlb : (decide (0 ≤ links) && decide (links ≤ 100)) = true := by simp [hl0, hl1]
            rw [hlb]
            clear hlb
            go_wp2_with fail
            refine (HZ.out _ B6).mono ?_
            rintro e w7 ⟨rfl, hb7⟩
            have B7 := below_chain B6 hb7 B6.size
            clear c0 c1 c2 c3 c4 c5 d0 d1 d2 d3 d4 d5
            by_cases hs0 : 0 ≤ size
            · by_cases hs1 : size ≤ 262144
              · rw [show (decide (0 ≤ size) && decide (size ≤ 262144)) = true by simp [hs0, hs1]]
                go_wp2_with fail
                refine (HA.out _).mono ?_
                rintro e w8 ⟨rfl, hb8⟩
                have B8 := below_chain B7 hb8 B7.size
                go_wp2_with fail
                go_ret
                first | exact ⟨rfl, B8⟩ | (refine ⟨congrArg Ending.returned (congrArg Value.bool ?_), B8⟩; simp; omega)
              · rw [show (decide (0 ≤ size) && decide (size ≤ 262144)) = false by simp [hs1]]
                go_wp2_with fail
                refine (HA.out _).mono ?_
                rintro e w8 ⟨rfl, hb8⟩
                have B8 := below_chain B7 hb8 B7.size
                go_wp2_with fail
                go_ret
                first | exact ⟨rfl, B8⟩ | (refine ⟨congrArg Ending.returned (congrArg Value.bool ?_), B8⟩; simp; omega)
            · rw [show (decide (0 ≤ size) && decide (size ≤ 262144)) = false by simp [hs0]]
              go_wp2_with fail
              refine (HA.out _).mono ?_
              rintro e w8 ⟨rfl, hb8⟩
              have B8 := below_chain B7 hb8 B7.size
              go_wp2_with fail
              go_ret
              first | exact ⟨rfl, B8⟩ | (refine ⟨congrArg Ending.returned (congrArg Value.bool ?_), B8⟩; simp; omega)
          · have hlb : (decide (0 ≤ links) && decide (links ≤ 100)) = false := by simp [hl1]
            rw [hlb]
            clear hlb
            go_wp2_with fail
            refine (HZ.out _ B6).mono ?_
            rintro e w7 ⟨rfl, hb7⟩
            have B7 := below_chain B6 hb7 B6.size
            clear c0 c1 c2 c3 c4 c5 d0 d1 d2 d3 d4 d5
            by_cases hs0 : 0 ≤ size
            · by_cases hs1 : size ≤ 262144
              · rw [show (decide (0 ≤ size) && decide (size ≤ 262144)) = true by simp [hs0, hs1]]
                go_wp2_with fail
                refine (HA.out _).mono ?_
                rintro e w8 ⟨rfl, hb8⟩
                have B8 := below_chain B7 hb8 B7.size
                go_wp2_with fail
                go_ret
                first | exact ⟨rfl, B8⟩ | (refine ⟨congrArg Ending.returned (congrArg Value.bool ?_), B8⟩; simp; omega)
              · rw [show (decide (0 ≤ size) && decide (size ≤ 262144)) = false by simp [hs1]]
                go_wp2_with fail
                refine (HA.out _).mono ?_
                rintro e w8 ⟨rfl, hb8⟩
                have B8 := below_chain B7 hb8 B7.size
                go_wp2_with fail
                go_ret
                first | exact ⟨rfl, B8⟩ | (refine ⟨congrArg Ending.returned (congrArg Value.bool ?_), B8⟩; simp; omega)
            · rw [show (decide (0 ≤ size) && decide (size ≤ 262144)) = false by simp [hs0]]
              go_wp2_with fail
              refine (HA.out _).mono ?_
              rintro e w8 ⟨rfl, hb8⟩
              have B8 := below_chain B7 hb8 B7.size
              go_wp2_with fail
              go_ret
              first | exact ⟨rfl, B8⟩ | (refine ⟨congrArg Ending.returned (congrArg Value.bool ?_), B8⟩; simp; omega)
        · have hlb : (decide (0 ≤ links) && decide (links ≤ 100)) = false := by simp [hl0]
          rw [hlb]
          clear hlb
          go_wp2_with fail
          refine (HZ.out _ B6).mono ?_
          rintro e w7 ⟨rfl, hb7⟩
          have B7 := below_chain B6 hb7 B6.size
          clear c0 c1 c2 c3 c4 c5 d0 d1 d2 d3 d4 d5
          by_cases hs0 : 0 ≤ size
          · by_cases hs1 : size ≤ 262144
            · rw [show (decide (0 ≤ size) && decide (size ≤ 262144)) = true by simp [hs0, hs1]]
              go_wp2_with fail
              refine (HA.out _).mono ?_
              rintro e w8 ⟨rfl, hb8⟩
              have B8 := below_chain B7 hb8 B7.size
              go_wp2_with fail
              go_ret
              first | exact ⟨rfl, B8⟩ | (refine ⟨congrArg Ending.returned (congrArg Value.bool ?_), B8⟩; simp; omega)
            · rw [show (decide (0 ≤ size) && decide (size ≤ 262144)) = false by simp [hs1]]
              go_wp2_with fail
              refine (HA.out _).mono ?_
              rintro e w8 ⟨rfl, hb8⟩
              have B8 := below_chain B7 hb8 B7.size
              go_wp2_with fail
              go_ret
              first | exact ⟨rfl, B8⟩ | (refine ⟨congrArg Ending.returned (congrArg Value.bool ?_), B8⟩; simp; omega)
          · rw [show (decide (0 ≤ size) && decide (size ≤ 262144)) = false by simp [hs0]]
            go_wp2_with fail
            refine (HA.out _).mono ?_
            rintro e w8 ⟨rfl, hb8⟩
            have B8 := below_chain B7 hb8 B7.size
            go_wp2_with fail
            go_ret
            first | exact ⟨rfl, B8⟩ | (refine ⟨congrArg Ending.returned (congrArg Value.bool ?_), B8⟩; simp; omega)
    · obtain rfl : n = 1 := by omega
      have HY2 : Hid (∀ W, Below w.heap.size w W → Calls Try.prog 19 #[iv k p l sz d a 0 cap] W fun e w' => e = .returned (.bool (d == 0)) ∧ Below W.heap.size W w') := HY'.out
      clear HY' e1 hle hg0 hq hp1
      have hg1 : (1 : Int) ≤ (cap : Int) := by omega
      go_enter Try.func6, Try.ntmps6
      go_wp2_with fail
      refine (HK.out _ B0).mono ?_
      rintro e w1 ⟨rfl, hb1⟩
      have B1 := below_chain B0 hb1 B0.size
      have r1 := r0.below hb1 r0.lt
      obtain ⟨c0, c1, c2, c3, c4, c5⟩ := six_cells r1
      have l1 := r1.lt
      go_wp2_with fail
      have B2 := B1.alloc B1.size (.cells #[.int .i64 k, .bool p, .int .i64 l, .int .i64 sz, .int .i64 d, .slice a 0 cap] 24)
      have r2 := r1.alloc (.cells #[.int .i64 k, .bool p, .int .i64 l, .int .i64 sz, .int .i64 d, .slice a 0 cap] 24)
      have y2 := rowAt_alloc w1 #[.int .i64 k, .bool p, .int .i64 l, .int .i64 sz, .int .i64 d, .slice a 0 cap] 24
      generalize w1.alloc (.cells #[.int .i64 k, .bool p, .int .i64 l, .int .i64 sz, .int .i64 d, .slice a 0 cap] 24) = W2 at *
      generalize w1.heap.size = K at *
      clear c0 c1 c2 c3 c4 c5 r0 r1 B1 hb1 l1 B0
      obtain ⟨c0, c1, c2, c3, c4, c5⟩ := six_cells y2
      have x4 := r2.cell 4 (by simp)
      have B2s : w.heap.size ≤ W2.heap.size := B2.size
      go_region_held3 (fun w' => w'.cell? ⟨K, 0, none⟩ = some (.int .i64 k) ∧ w'.cell? ⟨K, 1, none⟩ = some (.bool p) ∧ w'.cell? ⟨K, 2, none⟩ = some (.int .i64 l) ∧ w'.cell? ⟨K, 3, none⟩ = some (.int .i64 sz) ∧ w'.cell? ⟨K, 4, none⟩ = some (.int .i64 d) ∧ w'.cell? ⟨K, 5, none⟩ = some (.slice a 0 cap) ∧ w'.cell? ⟨w.heap.size, 4, none⟩ = some (.int .i64 d) ∧ RowAt w' w.heap.size [.int .i64 k, .bool p, .int .i64 l, .int .i64 sz, .int .i64 d, .slice a 1 cap] ∧ RowAt w' K [.int .i64 k, .bool p, .int .i64 l, .int .i64 sz, .int .i64 d, .slice a 0 cap] ∧ Below w.heap.size w w' ∧ w.heap.size ≤ w'.heap.size) (first | (exact less_keep ⟨c0, c1, c2, c3, c4, c5, x4, r2, y2, B2, B2s⟩ ((Below.refl _ _).drew)) | (exact less_keep (by assumption) (by assumption)))
        (first | (go_at_call 19; refine (HY2.out _ (by exact B2.drew)).mono ?_; rintro e w' ⟨rfl, hb'⟩))
      obtain ⟨r3, B3⟩ := less_ends (W := w') (by assumption)
      have hdd : ((d == 0) != (d == 0)) = false := by simp
      obtain ⟨c0, c1, c2, c3, c4, c5⟩ := six_cells r3
      have l3 := r3.lt
      go_wp2_with fail
      have B4 := B3.alloc B3.size (.cells #[.int .i64 (3 - k), .bool (!p), .int .i64 links, .int .i64 sz, .int .i64 d, .slice a 1 cap] 24)
      have z4 := rowAt_alloc w' #[.int .i64 (3 - k), .bool (!p), .int .i64 links, .int .i64 sz, .int .i64 d, .slice a 1 cap] 24
      have r4 := r3.alloc (.cells #[.int .i64 (3 - k), .bool (!p), .int .i64 links, .int .i64 sz, .int .i64 d, .slice a 1 cap] 24)
      clear c0 c1 c2 c3 c4 c5
      refine (HL.out _ B4).mono ?_
      rintro e w5 ⟨rfl, hb5⟩
      have B5 := below_chain B4 hb5 B4.size
      have r5 := r4.below hb5 r4.lt
      have z5 := z4.below hb5 z4.lt
      clear B4 r4 z4 hb5
      obtain ⟨c0, c1, c2, c3, c4, c5⟩ := six_cells r5
      obtain ⟨d0, d1, d2, d3, d4, d5⟩ := six_cells z5
      have f2 := z5.frozen 2 (by simp)
      have f3 := z5.frozen 3 (by simp)
      have l5 := z5.lt
      have z6 := (z5.set 2 (.int .i64 l)).set 3 (.int .i64 size)
      have B6 : Below w.heap.size w ((w5.setCell ⟨w'.heap.size, 2, none⟩ (.int .i64 l)).setCell ⟨w'.heap.size, 3, none⟩ (.int .i64 size)) := (B5.setCell (by have := B3.size; simp; omega) _).setCell (by have := B3.size; simp; omega) _
      by_cases hl0 : 0 ≤ links
      · by_cases hl1 : links ≤ 100
        · have hlb : (decide (0 ≤ links) && decide (links ≤ 100)) = true := by simp [hl0, hl1]
          rw [hlb]
          clear hlb
          go_wp2_with fail
          refine (HZ.out _ B6).mono ?_
          rintro e w7 ⟨rfl, hb7⟩
          have B7 := below_chain B6 hb7 B6.size
          clear c0 c1 c2 c3 c4 c5 d0 d1 d2 d3 d4 d5
          by_cases hs0 : 0 ≤ size
          · by_cases hs1 : size ≤ 262144
            · rw [show (decide (0 ≤ size) && decide (size ≤ 262144)) = true by simp [hs0, hs1]]
              go_wp2_with fail
              refine (HA.out _).mono ?_
              rintro e w8 ⟨rfl, hb8⟩
              have B8 := below_chain B7 hb8 B7.size
              go_wp2_with fail
              go_ret
              first | exact ⟨rfl, B8⟩ | (refine ⟨congrArg Ending.returned (congrArg Value.bool ?_), B8⟩; simp; omega)
            · rw [show (decide (0 ≤ size) && decide (size ≤ 262144)) = false by simp [hs1]]
              go_wp2_with fail
              refine (HA.out _).mono ?_
              rintro e w8 ⟨rfl, hb8⟩
              have B8 := below_chain B7 hb8 B7.size
              go_wp2_with fail
              go_ret
              first | exact ⟨rfl, B8⟩ | (refine ⟨congrArg Ending.returned (congrArg Value.bool ?_), B8⟩; simp; omega)
          · rw [show (decide (0 ≤ size) && decide (size ≤ 262144)) = false by simp [hs0]]
            go_wp2_with fail
            refine (HA.out _).mono ?_
            rintro e w8 ⟨rfl, hb8⟩
            have B8 := below_chain B7 hb8 B7.size
            go_wp2_with fail
            go_ret
            first | exact ⟨rfl, B8⟩ | (refine ⟨congrArg Ending.returned (congrArg Value.bool ?_), B8⟩; simp; omega)
        · have hlb : (decide (0 ≤ links) && decide (links ≤ 100)) = false := by simp [hl1]
          rw [hlb]
          clear hlb
          go_wp2_with fail
          refine (HZ.out _ B6).mono ?_
          rintro e w7 ⟨rfl, hb7⟩
          have B7 := below_chain B6 hb7 B6.size
          clear c0 c1 c2 c3 c4 c5 d0 d1 d2 d3 d4 d5
          by_cases hs0 : 0 ≤ size
          · by_cases hs1 : size ≤ 262144
            · rw [show (decide (0 ≤ size) && decide (size ≤ 262144)) = true by simp [hs0, hs1]]
              go_wp2_with fail
              refine (HA.out _).mono ?_
              rintro e w8 ⟨rfl, hb8⟩
              have B8 := below_chain B7 hb8 B7.size
              go_wp2_with fail
              go_ret
              first | exact ⟨rfl, B8⟩ | (refine ⟨congrArg Ending.returned (congrArg Value.bool ?_), B8⟩; simp; omega)
            · rw [show (decide (0 ≤ size) && decide (size ≤ 262144)) = false by simp [hs1]]
              go_wp2_with fail
              refine (HA.out _).mono ?_
              rintro e w8 ⟨rfl, hb8⟩
              have B8 := below_chain B7 hb8 B7.size
              go_wp2_with fail
              go_ret
              first | exact ⟨rfl, B8⟩ | (refine ⟨congrArg Ending.returned (congrArg Value.bool ?_), B8⟩; simp; omega)
          · rw [show (decide (0 ≤ size) && decide (size ≤ 262144)) = false by simp [hs0]]
            go_wp2_with fail
            refine (HA.out _).mono ?_
            rintro e w8 ⟨rfl, hb8⟩
            have B8 := below_chain B7 hb8 B7.size
            go_wp2_with fail
            go_ret
            first | exact ⟨rfl, B8⟩ | (refine ⟨congrArg Ending.returned (congrArg Value.bool ?_), B8⟩; simp; omega)
      · have hlb : (decide (0 ≤ links) && decide (links ≤ 100)) = false := by simp [hl0]
        rw [hlb]
        clear hlb
        go_wp2_with fail
        refine (HZ.out _ B6).mono ?_
        rintro e w7 ⟨rfl, hb7⟩
        have B7 := below_chain B6 hb7 B6.size
        clear c0 c1 c2 c3 c4 c5 d0 d1 d2 d3 d4 d5
        by_cases hs0 : 0 ≤ size
        · by_cases hs1 : size ≤ 262144
          · rw [show (decide (0 ≤ size) && decide (size ≤ 262144)) = true by simp [hs0, hs1]]
            go_wp2_with fail
            refine (HA.out _).mono ?_
            rintro e w8 ⟨rfl, hb8⟩
            have B8 := below_chain B7 hb8 B7.size
            go_wp2_with fail
            go_ret
            first | exact ⟨rfl, B8⟩ | (refine ⟨congrArg Ending.returned (congrArg Value.bool ?_), B8⟩; simp; omega)
          · rw [show (decide (0 ≤ size) && decide (size ≤ 262144)) = false by simp [hs1]]
            go_wp2_with fail
            refine (HA.out _).mono ?_
            rintro e w8 ⟨rfl, hb8⟩
            have B8 := below_chain B7 hb8 B7.size
            go_wp2_with fail
            go_ret
            first | exact ⟨rfl, B8⟩ | (refine ⟨congrArg Ending.returned (congrArg Value.bool ?_), B8⟩; simp; omega)
        · rw [show (decide (0 ≤ size) && decide (size ≤ 262144)) = false by simp [hs0]]
          go_wp2_with fail
          refine (HA.out _).mono ?_
          rintro e w8 ⟨rfl, hb8⟩
          have B8 := below_chain B7 hb8 B7.size
          go_wp2_with fail
          go_ret
          first | exact ⟨rfl, B8⟩ | (refine ⟨congrArg Ending.returned (congrArg Value.bool ?_), B8⟩; simp; omega)
  · obtain rfl : n = 0 := by omega
    clear HY HR
    go_enter Try.func6, Try.ntmps6
    go_wp2_with fail
    refine (HK.out _ B0).mono ?_
    rintro e w1 ⟨rfl, hb1⟩
    have B1 := below_chain B0 hb1 B0.size
    have r1 := r0.below hb1 r0.lt
    have B3 := B1.alloc B1.size (.cells #[.int .i64 k, .bool p, .int .i64 l, .int .i64 sz, .int .i64 d, .slice a 0 cap] 24)
    have r3 := r1.alloc (.cells #[.int .i64 k, .bool p, .int .i64 l, .int .i64 sz, .int .i64 d, .slice a 0 cap] 24)
    obtain ⟨c0, c1, c2, c3, c4, c5⟩ := six_cells r1
    have l3 := r1.lt
    go_wp2_with fail
    have B4 := B3.alloc B3.size (.cells #[.int .i64 (3 - k), .bool (!p), .int .i64 links, .int .i64 sz, .int .i64 d, .slice a 0 cap] 24)
    have z4 := rowAt_alloc (w1.alloc (.cells #[.int .i64 k, .bool p, .int .i64 l, .int .i64 sz, .int .i64 d, .slice a 0 cap] 24)) #[.int .i64 (3 - k), .bool (!p), .int .i64 links, .int .i64 sz, .int .i64 d, .slice a 0 cap] 24
    rw [World.size_alloc] at z4
    have r4 := r3.alloc (.cells #[.int .i64 (3 - k), .bool (!p), .int .i64 links, .int .i64 sz, .int .i64 d, .slice a 0 cap] 24)
    clear c0 c1 c2 c3 c4 c5
    refine (HL.out _ B4).mono ?_
    rintro e w5 ⟨rfl, hb5⟩
    have B5 := below_chain B4 hb5 B4.size
    have r5 := r4.below hb5 r4.lt
    have z5 := z4.below hb5 z4.lt
    clear B4 r4 z4 hb5
    obtain ⟨c0, c1, c2, c3, c4, c5⟩ := six_cells r5
    obtain ⟨d0, d1, d2, d3, d4, d5⟩ := six_cells z5
    have f2 := z5.frozen 2 (by simp)
    have f3 := z5.frozen 3 (by simp)
    have l5 := z5.lt
    have z6 := (z5.set 2 (.int .i64 l)).set 3 (.int .i64 size)
    have B6 : Below w.heap.size w ((w5.setCell ⟨w1.heap.size + 1, 2, none⟩ (.int .i64 l)).setCell ⟨w1.heap.size + 1, 3, none⟩ (.int .i64 size)) := (B5.setCell (by have := B1.size; simp; omega) _).setCell (by have := B1.size; simp; omega) _
    by_cases hl0 : 0 ≤ links
    · by_cases hl1 : links ≤ 100
      · have hlb : (decide (0 ≤ links) && decide (links ≤ 100)) = true := by simp [hl0, hl1]
        rw [hlb]
        clear hlb
        go_wp2_with fail
        refine (HZ.out _ B6).mono ?_
        rintro e w7 ⟨rfl, hb7⟩
        have B7 := below_chain B6 hb7 B6.size
        clear c0 c1 c2 c3 c4 c5 d0 d1 d2 d3 d4 d5
        by_cases hs0 : 0 ≤ size
        · by_cases hs1 : size ≤ 262144
          · rw [show (decide (0 ≤ size) && decide (size ≤ 262144)) = true by simp [hs0, hs1]]
            go_wp2_with fail
            refine (HA.out _).mono ?_
            rintro e w8 ⟨rfl, hb8⟩
            have B8 := below_chain B7 hb8 B7.size
            go_wp2_with fail
            go_ret
            first | exact ⟨rfl, B8⟩ | (refine ⟨congrArg Ending.returned (congrArg Value.bool ?_), B8⟩; simp; omega)
          · rw [show (decide (0 ≤ size) && decide (size ≤ 262144)) = false by simp [hs1]]
            go_wp2_with fail
            refine (HA.out _).mono ?_
            rintro e w8 ⟨rfl, hb8⟩
            have B8 := below_chain B7 hb8 B7.size
            go_wp2_with fail
            go_ret
            first | exact ⟨rfl, B8⟩ | (refine ⟨congrArg Ending.returned (congrArg Value.bool ?_), B8⟩; simp; omega)
        · rw [show (decide (0 ≤ size) && decide (size ≤ 262144)) = false by simp [hs0]]
          go_wp2_with fail
          refine (HA.out _).mono ?_
          rintro e w8 ⟨rfl, hb8⟩
          have B8 := below_chain B7 hb8 B7.size
          go_wp2_with fail
          go_ret
          first | exact ⟨rfl, B8⟩ | (refine ⟨congrArg Ending.returned (congrArg Value.bool ?_), B8⟩; simp; omega)
      · have hlb : (decide (0 ≤ links) && decide (links ≤ 100)) = false := by simp [hl1]
        rw [hlb]
        clear hlb
        go_wp2_with fail
        refine (HZ.out _ B6).mono ?_
        rintro e w7 ⟨rfl, hb7⟩
        have B7 := below_chain B6 hb7 B6.size
        clear c0 c1 c2 c3 c4 c5 d0 d1 d2 d3 d4 d5
        by_cases hs0 : 0 ≤ size
        · by_cases hs1 : size ≤ 262144
          · rw [show (decide (0 ≤ size) && decide (size ≤ 262144)) = true by simp [hs0, hs1]]
            go_wp2_with fail
            refine (HA.out _).mono ?_
            rintro e w8 ⟨rfl, hb8⟩
            have B8 := below_chain B7 hb8 B7.size
            go_wp2_with fail
            go_ret
            first | exact ⟨rfl, B8⟩ | (refine ⟨congrArg Ending.returned (congrArg Value.bool ?_), B8⟩; simp; omega)
          · rw [show (decide (0 ≤ size) && decide (size ≤ 262144)) = false by simp [hs1]]
            go_wp2_with fail
            refine (HA.out _).mono ?_
            rintro e w8 ⟨rfl, hb8⟩
            have B8 := below_chain B7 hb8 B7.size
            go_wp2_with fail
            go_ret
            first | exact ⟨rfl, B8⟩ | (refine ⟨congrArg Ending.returned (congrArg Value.bool ?_), B8⟩; simp; omega)
        · rw [show (decide (0 ≤ size) && decide (size ≤ 262144)) = false by simp [hs0]]
          go_wp2_with fail
          refine (HA.out _).mono ?_
          rintro e w8 ⟨rfl, hb8⟩
          have B8 := below_chain B7 hb8 B7.size
          go_wp2_with fail
          go_ret
          first | exact ⟨rfl, B8⟩ | (refine ⟨congrArg Ending.returned (congrArg Value.bool ?_), B8⟩; simp; omega)
    · have hlb : (decide (0 ≤ links) && decide (links ≤ 100)) = false := by simp [hl0]
      rw [hlb]
      clear hlb
      go_wp2_with fail
      refine (HZ.out _ B6).mono ?_
      rintro e w7 ⟨rfl, hb7⟩
      have B7 := below_chain B6 hb7 B6.size
      clear c0 c1 c2 c3 c4 c5 d0 d1 d2 d3 d4 d5
      by_cases hs0 : 0 ≤ size
      · by_cases hs1 : size ≤ 262144
        · rw [show (decide (0 ≤ size) && decide (size ≤ 262144)) = true by simp [hs0, hs1]]
          go_wp2_with fail
          refine (HA.out _).mono ?_
          rintro e w8 ⟨rfl, hb8⟩
          have B8 := below_chain B7 hb8 B7.size
          go_wp2_with fail
          go_ret
          first | exact ⟨rfl, B8⟩ | (refine ⟨congrArg Ending.returned (congrArg Value.bool ?_), B8⟩; simp; omega)
        · rw [show (decide (0 ≤ size) && decide (size ≤ 262144)) = false by simp [hs1]]
          go_wp2_with fail
          refine (HA.out _).mono ?_
          rintro e w8 ⟨rfl, hb8⟩
          have B8 := below_chain B7 hb8 B7.size
          go_wp2_with fail
          go_ret
          first | exact ⟨rfl, B8⟩ | (refine ⟨congrArg Ending.returned (congrArg Value.bool ?_), B8⟩; simp; omega)
      · rw [show (decide (0 ≤ size) && decide (size ≤ 262144)) = false by simp [hs0]]
        go_wp2_with fail
        refine (HA.out _).mono ?_
        rintro e w8 ⟨rfl, hb8⟩
        have B8 := below_chain B7 hb8 B7.size
        go_wp2_with fail
        go_ret
        first | exact ⟨rfl, B8⟩ | (refine ⟨congrArg Ending.returned (congrArg Value.bool ?_), B8⟩; simp; omega)

theorem walk_inodesLess (w : World) (x : Ino) (a : Option Addr) (cap : Nat) (_ : i64B x.k) (_ : i64B x.l) (_ : i64B x.s) (_ : i64B x.d) (hc : x.es.length ≤ cap) (_ : cap ≤ maxLen) (hE : EntS w a x.es) (_ : ∀ y ∈ x.es, i64B y.1 ∧ i64B y.2.1 ∧ i64B y.2.2)
    (links : Int) (_ : -9223372036854775808 ≤ links) (_ : links ≤ 9223372036854775807) (size : Int) (_ : -9223372036854775808 ≤ size) (_ : size ≤ 9223372036854775807) :
    Calls Try.prog 6 #[inoV x a cap, .int .i64 links, .int .i64 size] w fun e w' => e = .returned (.bool true) ∧ Below w.heap.size w w' := by
  by_cases hn : x.es.length ≤ 1000
  · have HK := Lib.hid (fun W (hb : Below w.heap.size w W) => icheck_any x a cap W (by omega) (hE.below hb (Nat.le_refl _)))
    by_cases hk : x.ok = true
    · by_cases h0 : x.k = 0
      · exact inoLess_skip w x.k x.p x.l x.s x.d a x.es.length cap links size x.ok (.inr ⟨hn, .inr ⟨hk, h0⟩⟩) (fun _ => HK)
      · have hk12 : x.k = 1 ∨ x.k = 2 := by
          rcases x.ok_iff.1 hk with ⟨h1, _⟩ | ⟨h1, _⟩
          · exact absurd h1 h0
          · exact h1
        rw [hk] at HK
        refine inoLess_core w x.k x.p x.l x.s x.d a x.es.length cap links size hn hc hk12 (decide (0 < x.es.length - 1) || x.d == 0) HK (Lib.hid (fun hp W hb => ?_)) ?_ (Lib.hid (fun W hb => ?_)) (Lib.hid (fun W hb => ?_))
        · have := icheck_any ⟨x.k, x.p, x.l, x.s, x.d, x.es.take (x.es.length - 1)⟩ a cap W (by simp; omega) ((hE.take _).below hb (Nat.le_refl _))
          rw [less_last hk h0 (x.es.length - 1) (by omega)] at this
          simp only [inoV, List.length_take, Nat.min_eq_left (Nat.sub_le x.es.length 1)] at this
          exact this
        · intro hp
          by_cases hq : 0 < x.es.length - 1
          · exact .inl ⟨hq, by simp [hq]⟩
          · exact .inr ⟨by omega, by simp [hq]⟩
        · have := icheck_any ⟨3 - x.k, !x.p, links, x.s, x.d, x.es⟩ a cap W (by show x.es.length ≤ 100000; omega) (hE.below hb (Nat.le_refl _))
          rw [less_links hk h0] at this
          exact this
        · have := icheck_any ⟨3 - x.k, !x.p, x.l, size, x.d, x.es⟩ a cap W (by show x.es.length ≤ 100000; omega) (hE.below hb (Nat.le_refl _))
          rw [less_size hk h0] at this
          exact this
    · exact inoLess_skip w x.k x.p x.l x.s x.d a x.es.length cap links size x.ok (.inr ⟨hn, .inl (by simpa using hk)⟩) (fun _ => HK)
  · exact inoLess_skip w x.k x.p x.l x.s x.d a x.es.length cap links size true (.inl (by omega)) (fun h => absurd h hn)

/-! ### the frame (printed by mklaw.py) -/

set_option maxRecDepth 100000 in
theorem lifted_inodesLess (os : Os) (started : os.Started) (H : Type) (enc : TypeId × Value → H) :
    ReturnsInHanded {} Try.checked os 6 .any (Rows.inodesLessSpec.pre6 enc Try.prog Try.f6 Rows.inodesLessRow.domain false) (Rows.inodesLessSpec.post enc Try.prog Try.f6 false true false false) := by
  refine law_step (C := Try.checked) (tb := 4) (by kernel_rfl) (by kernel_rfl) started (by kernel_rfl) Try.func6 rfl Try.underlying4 rfl ?_ ?_
    (ChangeSpec.witness6 (enc := enc) (C := Try.checked) false ⟨#[], #[.agg #[.int .i64 0, .bool false, .int .i64 0, .int .i64 0, .int .i64 0, .slice none 0 0], .int .i64 0, .int .i64 0], []⟩ 8 (by kernel_rfl) (by kernel_rfl) (by kernel_rfl) (by kernel_rfl)) ?_
  · intro ds hl
    match ds, hl with
    | [d0, d1, d2], _ => rfl
  · intro t ht
    rw [show Try.f6.params.toList = [24, 3, 3] from by rw [Try.params6]] at ht
    simp only [List.mem_cons, List.not_mem_nil, or_false] at ht
    rcases ht with rfl | rfl | rfl
    · exact ⟨by kernel_rfl, of_decide_eq_true (by kernel_rfl)⟩
    · exact ⟨by kernel_rfl, of_decide_eq_true (by kernel_rfl)⟩
    · exact ⟨by kernel_rfl, of_decide_eq_true (by kernel_rfl)⟩
  · intro W args hG
    rw [show Try.f6.params.toList = [24, 3, 3] from by rw [Try.params6]] at hG
    obtain ⟨v0, v1, v2, rfl, g0, g1, g2⟩ := gotAll_args3 hG
    obtain ⟨k0, p0, l0, s0, d0, a0, cap0, es0, rfl, bk0, bl0, bs0, bd0, hc0, hm0, hE0, hz0⟩ := got_ino g0
    obtain ⟨a1, rfl, b1, c1⟩ := got_i64 Try.underlying3 g1
    obtain ⟨a2, rfl, b2, c2⟩ := got_i64 Try.underlying3 g2
    exact walk_inodesLess W ⟨k0, p0, l0, s0, d0, es0⟩ a0 cap0 bk0 bl0 bs0 bd0 hc0 hm0 hE0 hz0 a1 b1 c1 a2 b2 c2

theorem inodesLess_over : Rows.inodesLessRow.holds Try.pinned (OpenSpec.ofChange Rows.inodesLessSpec) :=
  OpenClaim.holds_of_wide 6 Try.f6 rfl rfl rfl rfl rfl rfl rfl ⟨rfl, rfl, rfl, rfl, rfl⟩ rfl rfl rfl rfl rfl (by kernel_rfl) Try.func6 (by kernel_rfl)
    (of_decide_eq_true (by kernel_rfl)) (by unfold Func.isWrapper; first | (rw [if_pos (by decide +kernel)]; kernel_rfl) | (rw [if_neg (by decide +kernel)]; exact ⟨rfl, rfl⟩))
    (fun os started H enc _ => lifted_inodesLess os started H enc)

theorem inodesLess_holds : Rows.InodesLessSaid := inodesLess_over
#print axioms inodesLess_holds

end Go.Proofs.Ytdeemaafngehoaa
