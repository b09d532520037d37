/- For every input the law glissadelaw11.InodesMore returns true. -/
import Derived.Deep.RegionHeld3
import Derived.Test.YtdeemaafngehoaaInoWalks5
import Derived.Test.YtdeemaafngehoaaInoAlive
import Derived.Test.YtdeemaafngehoaaMem3
import Derived.Test.YtdeemaafngehoaaFrame
set_option linter.unusedVariables false
set_option linter.unusedSimpArgs false
set_option maxRecDepth 100000
namespace Go.Proofs.Ytdeemaafngehoaa
open Go.RowKit Go.Joins

theorem more_row {es : List (Int × Int × Int)} {leaf : Bool} (h : rowOk es leaf = true) {y : Int × Int × Int} (hy : entOk y.1 y.2.1 y.2.2 leaf = true) {last : Int × Int × Int} (hl : es[es.length - 1]? = some last) (h1 : last.1 < y.1) (h2 : last.1 + last.2.2 ≤ y.1) : rowOk (es ++ [y]) leaf = true := by
  have hp : 0 < es.length := by
    obtain ⟨hh, _⟩ := List.getElem?_eq_some_iff.1 hl
    omega
  rw [rowOk, List.all_eq_true] at h
  refine rowOk_yes fun k hk => ?_
  rw [List.length_append, List.length_singleton] at hk
  by_cases c : k < es.length
  · have := h k (List.mem_range.2 c)
    unfold stepOk at this ⊢
    rw [List.getElem?_append_left c]
    have e : (es ++ [y])[k - 1]? = es[k - 1]? := List.getElem?_append_left (by omega)
    rw [e]; exact this
  · obtain rfl : k = es.length := by omega
    unfold stepOk
    have e : (es ++ [y])[es.length - 1]? = es[es.length - 1]? := List.getElem?_append_left (by omega)
    rw [e, hl]
    simp [hy, h1, h2]

/-- behind the others there is room for it -/
theorem more_ok {x : Ino} (h : x.ok = true) (hk : x.k ≠ 0) {last : Int × Int × Int} (hl : x.es[x.es.length - 1]? = some last) (y : Int × Int × Int) (h1 : last.1 < y.1) (h2 : last.1 + last.2.2 ≤ y.1) (h3 : y.1 ≤ 1000) (h4 : 1 ≤ y.2.1) (h5 : y.2.1 ≤ 2000) (h6 : x.d = 0 ∧ 1 ≤ y.2.2 ∧ y.2.2 ≤ 1000 ∨ 0 < x.d ∧ y.2.2 = 0) :
    (Ino.mk x.k x.p x.l x.s x.d (x.es ++ [y])).ok = decide (x.es.length < 4) := by
  rcases x.ok_iff.1 h with ⟨g1, _⟩ | ⟨g1, g2, g3, g4, g5, g6, g7, g8, g9, g10⟩
  · exact absurd g1 hk
  · have hsm := row_small g10 last (List.mem_of_getElem? hl)
    have hent : entOk y.1 y.2.1 y.2.2 (x.d == 0) = true := by
      rcases h6 with ⟨e, a, b⟩ | ⟨e, a⟩
      · rw [e]
        exact entOk_leaf.2 ⟨a, by omega, by omega, by omega, h4, by omega⟩
      · rw [show (x.d == 0) = false by rw [beq_eq_false_iff_ne]; omega]
        exact entOk_node.2 ⟨a, by omega, by omega, h4, by omega⟩
    rw [Bool.eq_iff_iff, Ino.ok_iff, decide_eq_true_eq]
    constructor
    · rintro (⟨h1, _⟩ | ⟨_, _, _, _, _, _, _, h, _⟩)
      · exact absurd h1 hk
      · simp only [List.length_append, List.length_singleton] at h
        omega
    · intro h
      refine .inr ⟨g1, g2, g3, g4, g5, g6, g7, by simp; omega, .inr (by simp), more_row g10 hent hl h1 h2⟩

/-- what begins ahead of where the last one ends is out of order -/
theorem more_no {x : Ino} (hk : x.k ≠ 0) {last : Int × Int × Int} (hl : x.es[x.es.length - 1]? = some last) (y : Int × Int × Int) (h1 : y.1 < last.1 + last.2.2) :
    (Ino.mk x.k x.p x.l x.s x.d (x.es ++ [y])).ok = false := by
  rw [Bool.eq_false_iff]
  intro h
  have hp : 0 < x.es.length := by
    obtain ⟨hh, _⟩ := List.getElem?_eq_some_iff.1 hl
    omega
  rcases (Ino.ok_iff _).1 h with ⟨g1, _⟩ | ⟨_, _, _, _, _, _, _, _, _, g⟩
  · exact absurd g1 hk
  · rw [rowOk, List.all_eq_true] at g
    have := g x.es.length (List.mem_range.2 (by simp))
    unfold stepOk at this
    have e : (x.es ++ [y])[x.es.length - 1]? = x.es[x.es.length - 1]? := List.getElem?_append_left (by omega)
    simp only [] at this
    rw [e, hl] at this
    have hne : x.es ≠ [] := by intro e; rw [e] at hp; simp at hp
    simp [hne] at this
    omega

theorem EntAt.alloc {w : World} {B o : Nat} {es : List (Int × Int × Int)} (h : EntAt w B o es) (ob : Obj) : EntAt (w.alloc ob) B o es := h.below ((Below.refl _ _).alloc (Nat.le_refl _) ob) h.1

theorem ents_news {w : World} {B o : Nat} {es : List (Int × Int × Int)} (h : EntAt w B o es) : ∀ j u, (ecells es)[j]? = some u → w.cell? ((⟨B, o, none⟩ : Addr).add j) = some u := by
  intro j u hj
  have hl := ecells_length es
  have hj' : j < (ecells es).length := by
    rcases Nat.lt_or_ge j (ecells es).length with c | c
    · exact c
    · rw [List.getElem?_eq_none c] at hj; cases hj
  have hi : j / 3 < es.length := by omega
  obtain ⟨a, b, c⟩ := ecells_at es (j / 3) hi
  obtain ⟨a', b', c'⟩ := h.2 (j / 3) hi
  rw [add_off]
  have hm : j % 3 = 0 ∨ j % 3 = 1 ∨ j % 3 = 2 := by omega
  rcases hm with hm | hm | hm
  · have e : j = j / 3 * 3 := by omega
    rw [e] at hj
    rw [a] at hj
    rw [e, a', ← hj]
  · have e : j = j / 3 * 3 + 1 := by omega
    rw [e] at hj
    rw [b] at hj
    rw [e, ← Nat.add_assoc, b', ← hj]
  · have e : j = j / 3 * 3 + 2 := by omega
    rw [e] at hj
    rw [c] at hj
    rw [e, ← Nat.add_assoc, c', ← hj]

theorem ecells_one (es : List (Int × Int × Int)) : ∀ u ∈ ecells es, u.oneCell' = true := by
  intro u hu
  simp only [ecells, List.mem_map] at hu
  obtain ⟨z, _, rfl⟩ := hu
  rfl

set_option maxHeartbeats 2000000 in
theorem inoMore_skip (w : World) (k : Int) (p : Bool) (l sz d : Int) (a : Option Addr) (n cap : Nat) (y0 y1 y2 : Int) (ok : Bool) (hs : 1000 < n ∨ n ≤ 1000 ∧ (ok = false ∨ ok = true ∧ k = 0 ∨ ok = true ∧ 1 ≤ k ∧ n = 0))
    (HK0 : n ≤ 1000 → Hid (∀ W, Below w.heap.size w W → Calls Try.prog 19 #[iv k p l sz d a n cap] W fun e w' => e = .returned (.bool ok) ∧ Below W.heap.size W w')) :
    Calls Try.prog 7 #[iv k p l sz d a n cap, ev y0 y1 y2] w fun e w' => e = .returned (.bool true) ∧ Below w.heap.size w w' := by
  have HA := Lib.hid alive11
  have B0 : Below w.heap.size w ((w.alloc (.cells #[.int .i64 k, .bool p, .int .i64 l, .int .i64 sz, .int .i64 d, .slice a n cap] 24)).alloc (.cells #[.int .i64 y0, .int .i64 y1, .int .i64 y2] 26)) := ((Below.refl w.heap.size w).alloc (Nat.le_refl _) _).alloc (by simp) _
  have r0 := (rowAt_alloc w #[.int .i64 k, .bool p, .int .i64 l, .int .i64 sz, .int .i64 d, .slice a n cap] 24).alloc (.cells #[.int .i64 y0, .int .i64 y1, .int .i64 y2] 26)
  rcases hs with h | ⟨h, h'⟩
  · have hn : (1000 : Int) < (n : Int) := by omega
    go_enter Try.func7, Try.ntmps7
    go_wp2_with fail
    refine (HA.out _).mono ?_
    rintro e w5 ⟨rfl, hb5⟩
    have B5 := below_chain B0 hb5 B0.size
    go_wp2_with fail
    go_ret
    exact ⟨rfl, B5⟩
  · have HK := HK0 h
    clear HK0
    have hn : ¬ (1000 : Int) < (n : Int) := by omega
    have hq : ok = false ∨ ok = true ∧ (k == 0) = true ∨ ok = true ∧ (k == 0) = false ∧ n = 0 := by
      rcases h' with h | ⟨h, h2⟩ | ⟨h, h2, h3⟩
      · exact .inl h
      · exact .inr (.inl ⟨h, by simpa using h2⟩)
      · exact .inr (.inr ⟨h, by rw [beq_eq_false_iff_ne]; omega, h3⟩)
    clear h'
    rcases hq with rfl | ⟨rfl, hk⟩ | ⟨rfl, hk, rfl⟩
    all_goals
      go_enter Try.func7, Try.ntmps7
      go_wp2_with fail
      refine (HK.out _ B0).mono ?_
      rintro e w4 ⟨rfl, hb4⟩
      have B4 := below_chain B0 hb4 B0.size
      have r4 := r0.below hb4 r0.lt
      obtain ⟨c0, c1, c2, c3, c4, c5⟩ := six_cells r4
      go_wp2_with fail
      refine (HA.out _).mono ?_
      rintro e w5 ⟨rfl, hb5⟩
      have B5 := below_chain B4 hb5 B4.size
      go_wp2_with fail
      go_ret
      exact ⟨rfl, B5⟩

theorem three_cells {w : World} {K : Nat} {v0 v1 v2 : Value} (h : RowAt w K [v0, v1, v2]) : w.cell? ⟨K, 0, none⟩ = some v0 ∧ w.cell? ⟨K, 1, none⟩ = some v1 ∧ w.cell? ⟨K, 2, none⟩ = some v2 :=
  ⟨h.cell 0 (by simp), h.cell 1 (by simp), h.cell 2 (by simp)⟩

theorem own_at {w : World} {base : Nat} {e : TypeId} {size : Nat} {a : Option Addr} {n cap : Nat} {xs : List Value} (h : w.ownsRow base e size (.slice a n cap) n xs) (hn : 0 < n) : ∃ g, a = some ⟨g, 0, none⟩ ∧ base ≤ g ∧ RowAt w g xs := by
  rcases h.2 with ⟨_, h2⟩ | ⟨g, cap', cur, hv, hg, hh, r⟩
  · omega
  · injection hv with h1 h2 h3
    subst h1
    exact ⟨g, rfl, hg, rowAt_own h h.1 (h.lt g rfl).2⟩

theorem ecells_set_last (es : List (Int × Int × Int)) (a b c v : Int) : (ecells (es ++ [(a, b, c)])).set (es.length * 3) (.int .i64 v) = ecells (es ++ [(v, b, c)]) := by
  rw [ecells_append, ecells_append, List.set_append_right _ _ (by rw [ecells_length]; exact Nat.le_refl _), ecells_length, Nat.sub_self]
  rfl

theorem more_keep {w W W' : World} {K G L : Nat} {v0 v1 v2 v3 v4 v5 xv : Value} {xs ls gs : List Value} (h : W.cell? ⟨K, 0, none⟩ = some v0 ∧ W.cell? ⟨K, 1, none⟩ = some v1 ∧ W.cell? ⟨K, 2, none⟩ = some v2 ∧ W.cell? ⟨K, 3, none⟩ = some v3 ∧ W.cell? ⟨K, 4, none⟩ = some v4 ∧ W.cell? ⟨K, 5, none⟩ = some v5 ∧ W.cell? ⟨w.heap.size, 5, none⟩ = some xv ∧ RowAt W K [v0, v1, v2, v3, v4, v5] ∧ (RowAt W w.heap.size xs ∧ xs[5]? = some xv ∧ 5 < xs.length) ∧ RowAt W L ls ∧ RowAt W G gs ∧ Below w.heap.size w W ∧ w.heap.size ≤ W.heap.size) (hb : Below W.heap.size W W') : W'.cell? ⟨K, 0, none⟩ = some v0 ∧ W'.cell? ⟨K, 1, none⟩ = some v1 ∧ W'.cell? ⟨K, 2, none⟩ = some v2 ∧ W'.cell? ⟨K, 3, none⟩ = some v3 ∧ W'.cell? ⟨K, 4, none⟩ = some v4 ∧ W'.cell? ⟨K, 5, none⟩ = some v5 ∧ W'.cell? ⟨w.heap.size, 5, none⟩ = some xv ∧ RowAt W' K [v0, v1, v2, v3, v4, v5] ∧ (RowAt W' w.heap.size xs ∧ xs[5]? = some xv ∧ 5 < xs.length) ∧ RowAt W' L ls ∧ RowAt W' G gs ∧ Below w.heap.size w W' ∧ w.heap.size ≤ W'.heap.size := by
  obtain ⟨_, _, _, _, _, _, _, h1, ⟨h2, h3, h3'⟩, h4, h5, h6, h7⟩ := h
  have g1 := h1.below hb h1.lt
  have g2 := h2.below hb h2.lt
  obtain ⟨c0, c1, c2, c3, c4, c5⟩ := six_cells g1
  exact ⟨c0, c1, c2, c3, c4, c5, (g2.cell 5 h3').trans h3, g1, ⟨g2, h3, h3'⟩, h4.below hb h4.lt, h5.below hb h5.lt, below_chain h6 hb h7, Nat.le_trans h7 hb.size⟩
theorem more_ends {w W : World} {K G L : Nat} {v0 v1 v2 v3 v4 v5 xv : Value} {xs ls gs : List Value} (h : W.cell? ⟨K, 0, none⟩ = some v0 ∧ W.cell? ⟨K, 1, none⟩ = some v1 ∧ W.cell? ⟨K, 2, none⟩ = some v2 ∧ W.cell? ⟨K, 3, none⟩ = some v3 ∧ W.cell? ⟨K, 4, none⟩ = some v4 ∧ W.cell? ⟨K, 5, none⟩ = some v5 ∧ W.cell? ⟨w.heap.size, 5, none⟩ = some xv ∧ RowAt W K [v0, v1, v2, v3, v4, v5] ∧ (RowAt W w.heap.size xs ∧ xs[5]? = some xv ∧ 5 < xs.length) ∧ RowAt W L ls ∧ RowAt W G gs ∧ Below w.heap.size w W ∧ w.heap.size ≤ W.heap.size) : RowAt W K [v0, v1, v2, v3, v4, v5] ∧ RowAt W w.heap.size xs ∧ RowAt W L ls ∧ RowAt W G gs ∧ Below w.heap.size w W :=
  ⟨h.2.2.2.2.2.2.2.1, h.2.2.2.2.2.2.2.2.1.1, h.2.2.2.2.2.2.2.2.2.1, h.2.2.2.2.2.2.2.2.2.2.1, h.2.2.2.2.2.2.2.2.2.2.2.1⟩

set_option maxHeartbeats 4000000 in
theorem inoMore_core (w : World) (k : Int) (p : Bool) (l sz d : Int) (B o : Nat) (es : List (Int × Int × Int)) (cap : Nat) (y0 y1 y2 : Int) (hE : EntAt w B o es) (hn : es.length ≤ 1000) (hp : 0 < es.length) (hk1 : 1 ≤ k) (hk2 : k ≤ 2) (hd : 0 ≤ d ∧ d ≤ 4) (l0 l1 l2 : Int) (hl : es[es.length - 1]? = some (l0, l1, l2)) (hl0 : 0 ≤ l0 ∧ l0 ≤ 2047) (hl2 : 0 ≤ l2 ∧ l2 ≤ 4096)
    (HK : Hid (∀ W, Below w.heap.size w W → Calls Try.prog 19 #[iv k p l sz d (some ⟨B, o, none⟩) es.length cap] W fun e w' => e = .returned (.bool true) ∧ Below W.heap.size W w'))
    (HM : Hid (∀ y2', (0 < d ∧ y2' = 0 ∨ d = 0 ∧ y2' = y2) → l0 < y0 → l0 + l2 ≤ y0 → y0 ≤ 1000 → 1 ≤ y1 → y1 ≤ 2000 → 1 ≤ y2 → y2 ≤ 1000 → ∀ W a' cap', EntS W a' (es ++ [(y0, y1, y2')]) → Calls Try.prog 19 #[iv k p l sz d a' (es.length + 1) cap'] W fun e w' => e = .returned (.bool (decide ((es.length : Int) < 4))) ∧ Below W.heap.size W w'))
    (HN : Hid (∀ W a' cap', EntS W a' (es ++ [(l0 + l2 - 1, y1, y2)]) → Calls Try.prog 19 #[iv k p l sz d a' (es.length + 1) cap'] W fun e w' => e = .returned (.bool false) ∧ Below W.heap.size W w')) :
    Calls Try.prog 7 #[iv k p l sz d (some ⟨B, o, none⟩) es.length cap, ev y0 y1 y2] w fun e w' => e = .returned (.bool true) ∧ Below w.heap.size w w' := by
  have HA := Lib.hid alive11
  have B0 : Below w.heap.size w ((w.alloc (.cells #[.int .i64 k, .bool p, .int .i64 l, .int .i64 sz, .int .i64 d, .slice (some ⟨B, o, none⟩) es.length cap] 24)).alloc (.cells #[.int .i64 y0, .int .i64 y1, .int .i64 y2] 26)) := ((Below.refl w.heap.size w).alloc (Nat.le_refl _) _).alloc (by simp) _
  have r0 := (rowAt_alloc w #[.int .i64 k, .bool p, .int .i64 l, .int .i64 sz, .int .i64 d, .slice (some ⟨B, o, none⟩) es.length cap] 24).alloc (.cells #[.int .i64 y0, .int .i64 y1, .int .i64 y2] 26)
  have s0 := rowAt_alloc (w.alloc (.cells #[.int .i64 k, .bool p, .int .i64 l, .int .i64 sz, .int .i64 d, .slice (some ⟨B, o, none⟩) es.length cap] 24)) #[.int .i64 y0, .int .i64 y1, .int .i64 y2] 26
  rw [World.size_alloc] at s0
  have hn2 : ¬ (1000 : Int) < (es.length : Int) := by omega
  have hk0 : (k == 0) = false := by rw [beq_eq_false_iff_ne]; omega
  have hp0 : ((es.length : Int) == 0) = false := by rw [beq_eq_false_iff_ne]; omega
  have hi0 : (0 : Int) ≤ (es.length : Int) - 1 := by omega
  have hi1 : (es.length : Int) - 1 < (es.length : Int) := by omega
  have hi2 : ((es.length : Int) - 1).toNat = es.length - 1 := by omega
  have HP := Lib.hid hp
  clear hp
  obtain ⟨hl0a, hl0b⟩ := hl0
  obtain ⟨hl2a, hl2b⟩ := hl2
  by_cases hg : l0 < y0 ∧ l0 + l2 ≤ y0 ∧ y0 ≤ 1000 ∧ 1 ≤ y1 ∧ y1 ≤ 2000 ∧ 1 ≤ y2 ∧ y2 ≤ 1000
  · obtain ⟨g1, g2, g3, g4, g5, g6, g7⟩ := hg
    go_enter Try.func7, Try.ntmps7
    go_wp2_with fail
    refine (HK.out _ B0).mono ?_
    rintro e w1 ⟨rfl, hb1⟩
    have B1 := below_chain B0 hb1 B0.size
    have r1 := r0.below hb1 r0.lt
    have s1 := s0.below hb1 s0.lt
    have hE1 := hE.below B1 hE.1
    obtain ⟨c0, c1, c2, c3, c4, c5⟩ := six_cells r1
    obtain ⟨d0, d1, d2⟩ := three_cells s1
    obtain ⟨e0, e1, e2⟩ := hE1.at_ _ _ hl
    have lr1 := r1.lt
    have ls1 := s1.lt
    have fs2 := s1.frozen 2 (by simp)
    have hBl := hE1.1
    by_cases hdp : 0 < d
    · go_wp2_with fail
      have B2 : Below w.heap.size w (w1.setCell ⟨w.heap.size + 1, 2, none⟩ (.int .i64 0)) := B1.setCell (by simp) _
      have hE2 := hE.below B2 hE.1
      have r2 := r1.other ⟨w.heap.size + 1, 2, none⟩ (.int .i64 0) (by simp)
      have s2 := s1.set 2 (.int .i64 0)
      have hs1lt := s1.lt
      have hsz2 : (w1.setCell ⟨w.heap.size + 1, 2, none⟩ (.int .i64 0)).heap.size = w1.heap.size := World.size_setCell _ _ _
      generalize w1.setCell ⟨w.heap.size + 1, 2, none⟩ (.int .i64 0) = w2 at *
      have HSZ := Lib.hid hsz2
      clear hsz2
      have hE0 := (hE2.alloc (.cells #[.int .i64 l0, .int .i64 l1, .int .i64 l2] 26)).alloc (.cells #[.int .i64 k, .bool p, .int .i64 l, .int .i64 sz, .int .i64 d, .slice (some ⟨B, o, none⟩) es.length cap] 24)
      have x0 := (r2.alloc (.cells #[.int .i64 l0, .int .i64 l1, .int .i64 l2] 26)).alloc (.cells #[.int .i64 k, .bool p, .int .i64 l, .int .i64 sz, .int .i64 d, .slice (some ⟨B, o, none⟩) es.length cap] 24)
      have yy0 := (s2.alloc (.cells #[.int .i64 l0, .int .i64 l1, .int .i64 l2] 26)).alloc (.cells #[.int .i64 k, .bool p, .int .i64 l, .int .i64 sz, .int .i64 d, .slice (some ⟨B, o, none⟩) es.length cap] 24)
      have la0 := (rowAt_alloc w2 #[.int .i64 l0, .int .i64 l1, .int .i64 l2] 26).alloc (.cells #[.int .i64 k, .bool p, .int .i64 l, .int .i64 sz, .int .i64 d, .slice (some ⟨B, o, none⟩) es.length cap] 24)
      have z0 := rowAt_alloc (w2.alloc (.cells #[.int .i64 l0, .int .i64 l1, .int .i64 l2] 26)) #[.int .i64 k, .bool p, .int .i64 l, .int .i64 sz, .int .i64 d, .slice (some ⟨B, o, none⟩) es.length cap] 24
      have BB0 := (B2.alloc B2.size (.cells #[.int .i64 l0, .int .i64 l1, .int .i64 l2] 26)).alloc (by simp; have := B2.size; omega) (.cells #[.int .i64 k, .bool p, .int .i64 l, .int .i64 sz, .int .i64 d, .slice (some ⟨B, o, none⟩) es.length cap] 24)
      rw [World.size_alloc, HSZ.out] at z0
      rw [HSZ.out] at la0
      generalize (w2.alloc (.cells #[.int .i64 l0, .int .i64 l1, .int .i64 l2] 26)).alloc (.cells #[.int .i64 k, .bool p, .int .i64 l, .int .i64 sz, .int .i64 d, .slice (some ⟨B, o, none⟩) es.length cap] 24) = W0 at *
      have hKK : w.heap.size + 2 ≤ w1.heap.size := hs1lt
      generalize w1.heap.size = K at *
      clear c0 c1 c2 c3 c4 c5 d0 d1 d2 e0 e1 e2 lr1 ls1 fs2 hBl hE1 r1 s1 B1 hb1 r0 s0 B0 r2 s2 hE2 B2 hs1lt HSZ
      have c5 : W0.cell? ⟨w.heap.size, 5, none⟩ = some (.slice (some ⟨B, o, none⟩) es.length cap) := x0.cell 5 (by simp)
      obtain ⟨d0, d1, d2⟩ := three_cells yy0
      have z5 : W0.cell? ⟨K + 1, 5, none⟩ = some (.slice (some ⟨B, o, none⟩) es.length cap) := z0.cell 5 (by simp)
      have fz5 := z0.frozen 5 (by simp)
      have lx := x0.lt
      have ly := yy0.lt
      have lz := z0.lt
      obtain ⟨i0, hi, hz0, hz1, hz2⟩ := info_parts info_ent
      have HI := Lib.hid (And.intro hi (And.intro hz0 (And.intro hz1 hz2)))
      clear hi hz0 hz1 hz2
      go_region_held3 (fun w' => w'.cell? ⟨w.heap.size, 5, none⟩ = some (.slice (some ⟨B, o, none⟩) es.length cap) ∧ w'.cell? ⟨w.heap.size + 1, 0, none⟩ = some (.int .i64 y0) ∧ w'.cell? ⟨w.heap.size + 1, 1, none⟩ = some (.int .i64 y1) ∧ w'.cell? ⟨w.heap.size + 1, 2, none⟩ = some (.int .i64 0)) (first | go_keep | exact ⟨C5a, C5b, C5c, C5d⟩ | exact ⟨C6a, C6b, C6c, C6d⟩ | exact ⟨(X6.other ⟨K + 1, 5, none⟩ _ (by first | (simp; done) | (simp; omega))).cell 5 (by simp), (three_cells (Y6.other ⟨K + 1, 5, none⟩ _ (by first | (simp; done) | (simp; omega)))).1, (three_cells (Y6.other ⟨K + 1, 5, none⟩ _ (by first | (simp; done) | (simp; omega)))).2.1, (three_cells (Y6.other ⟨K + 1, 5, none⟩ _ (by first | (simp; done) | (simp; omega)))).2.2⟩) (first | (refine step_append_own rfl (.tmp 82) (.tmp 84) 22 rfl W0.heap.size 26 i0 (.agg #[.int .i64 0, .int .i64 0, .int .i64 0]) 3 24 Try.underlying22 HI.out.1 HI.out.2.1 HI.out.2.2.1 HI.out.2.2.2 rfl (by decide) (.slice (some ⟨W0.heap.size, 0, none⟩) 0 0) 0 [] (by simp [Act.eval, Act.put]) (by exact (World.ownsRow_lit W0.drew #[] 0 (Nat.le_refl _) (by decide) rfl)) ⟨B, o, none⟩ es.length cap (ecells es) (by simp [Act.eval, Act.put]) (ecells_length es) (by exact ents_news (hE0.alloc (.cells #[] 26))) (ecells_one es) (by unfold maxLen; omega) (by omega) (by simp; try omega) ?_; intro v5 w5 own5 grow5; have B5 : Below W0.heap.size W0 w5 := grown_below ((Below.refl W0.heap.size W0).drew.alloc (Nat.le_refl _) (.cells #[] 26)) grow5 (by intro kk hkk; have := Option.some.inj hkk; simp at this; omega) (by simp; try omega); have X5 := x0.below B5 x0.lt; have Y5 := yy0.below B5 yy0.lt; have Z5 := z0.below B5 z0.lt; have C5a : w5.cell? ⟨w.heap.size, 5, none⟩ = some (.slice (some ⟨B, o, none⟩) es.length cap) := X5.cell 5 (by simp); obtain ⟨C5b, C5c, C5d⟩ := three_cells Y5; have L5a := X5.lt; have L5b := Y5.lt; have L5c := Z5.lt) | (refine step_append_own rfl (.tmp 82) (.tmp 84) 22 rfl W0.heap.size 26 i0 (.agg #[.int .i64 0, .int .i64 0, .int .i64 0]) 3 24 Try.underlying22 HI.out.1 HI.out.2.1 HI.out.2.2.1 HI.out.2.2.2 rfl (by decide) (.slice (some ⟨W0.heap.size, 0, none⟩) 0 0) 0 [] (by simp [Act.eval, Act.put]) (by exact ((World.ownsRow_lit W0.drew #[] 0 (Nat.le_refl _) (by decide) rfl).alloc (.cells #[.int .i64 y0, .int .i64 y1, .int .i64 0] 26))) ⟨B, o, none⟩ es.length cap (ecells es) (by simp [Act.eval, Act.put]) (ecells_length es) (by exact ents_news ((hE0.alloc (.cells #[] 26)).alloc (.cells #[.int .i64 y0, .int .i64 y1, .int .i64 0] 26))) (ecells_one es) (by unfold maxLen; omega) (by omega) (by simp; try omega) ?_; intro v5 w5 own5 grow5; have B5 : Below W0.heap.size W0 w5 := grown_below (((Below.refl W0.heap.size W0).drew.alloc (Nat.le_refl _) (.cells #[] 26)).alloc (by simp) (.cells #[.int .i64 y0, .int .i64 y1, .int .i64 0] 26)) grow5 (by intro kk hkk; have := Option.some.inj hkk; simp at this; omega) (by simp; try omega); have X5 := x0.below B5 x0.lt; have Y5 := yy0.below B5 yy0.lt; have Z5 := z0.below B5 z0.lt; have C5a : w5.cell? ⟨w.heap.size, 5, none⟩ = some (.slice (some ⟨B, o, none⟩) es.length cap) := X5.cell 5 (by simp); obtain ⟨C5b, C5c, C5d⟩ := three_cells Y5; have L5a := X5.lt; have L5b := Y5.lt; have L5c := Z5.lt; have yb : RowAt ((W0.drew.alloc (.cells #[] 26)).alloc (.cells #[.int .i64 y0, .int .i64 y1, .int .i64 0] 26)) (W0.heap.size + 1) [.int .i64 y0, .int .i64 y1, .int .i64 0] := (by have := rowAt_alloc (W0.drew.alloc (.cells #[] 26)) #[.int .i64 y0, .int .i64 y1, .int .i64 0] 26; rw [World.size_alloc] at this; exact this); have YB := RowAt.grown (w := (W0.drew.alloc (.cells #[] 26)).alloc (.cells #[.int .i64 y0, .int .i64 y1, .int .i64 0] 26)) yb grow5 (by simp [Value.ownBlock])) | (refine step_append_own rfl (.tmp 82) (.tmp 84) 22 rfl W0.heap.size 26 i0 (.agg #[.int .i64 0, .int .i64 0, .int .i64 0]) 3 24 Try.underlying22 HI.out.1 HI.out.2.1 HI.out.2.2.1 HI.out.2.2.2 rfl (by decide) (.slice (some ⟨W0.heap.size + 1, 0, none⟩) 0 0) 0 [] (by simp [Act.eval, Act.put]) (by exact (show World.ownsRow ((W0.drew.alloc (.cells #[.int .i64 y0, .int .i64 y1, .int .i64 0] 26)).alloc (.cells #[] 26)) W0.heap.size 26 3 (.slice (some ⟨W0.heap.size + 1, 0, none⟩) 0 0) 0 [] from (by have := World.ownsRow_lit (base := W0.heap.size) (e := 26) (size := 3) (W0.drew.alloc (.cells #[.int .i64 y0, .int .i64 y1, .int .i64 0] 26)) #[] 0 (by simp) (by decide) rfl; rw [World.size_alloc] at this; exact this))) ⟨B, o, none⟩ es.length cap (ecells es) (by simp [Act.eval, Act.put]) (ecells_length es) (by exact ents_news ((hE0.alloc (.cells #[.int .i64 y0, .int .i64 y1, .int .i64 0] 26)).alloc (.cells #[] 26))) (ecells_one es) (by unfold maxLen; omega) (by omega) (by simp; try omega) ?_; intro v5 w5 own5 grow5; have B5 : Below W0.heap.size W0 w5 := grown_below (((Below.refl W0.heap.size W0).drew.alloc (Nat.le_refl _) (.cells #[.int .i64 y0, .int .i64 y1, .int .i64 0] 26)).alloc (by simp) (.cells #[] 26)) grow5 (by intro kk hkk; have := Option.some.inj hkk; simp at this; omega) (by simp; try omega); have X5 := x0.below B5 x0.lt; have Y5 := yy0.below B5 yy0.lt; have Z5 := z0.below B5 z0.lt; have C5a : w5.cell? ⟨w.heap.size, 5, none⟩ = some (.slice (some ⟨B, o, none⟩) es.length cap) := X5.cell 5 (by simp); obtain ⟨C5b, C5c, C5d⟩ := three_cells Y5; have L5a := X5.lt; have L5b := Y5.lt; have L5c := Z5.lt; have yb : RowAt ((W0.drew.alloc (.cells #[.int .i64 y0, .int .i64 y1, .int .i64 0] 26)).alloc (.cells #[] 26)) W0.heap.size [.int .i64 y0, .int .i64 y1, .int .i64 0] := (rowAt_alloc W0.drew #[.int .i64 y0, .int .i64 y1, .int .i64 0] 26).alloc (.cells #[] 26); have YB := RowAt.grown (w := (W0.drew.alloc (.cells #[.int .i64 y0, .int .i64 y1, .int .i64 0] 26)).alloc (.cells #[] 26)) yb grow5 (by simp [Value.ownBlock])) | (refine step_append_own rfl (.tmp 85) (.tmp 87) 22 rfl W0.heap.size 26 i0 (.agg #[.int .i64 0, .int .i64 0, .int .i64 0]) 3 24 Try.underlying22 HI.out.1 HI.out.2.1 HI.out.2.2.1 HI.out.2.2.2 rfl (by decide) v5 (0 + es.length) _ (by simp [Act.eval, Act.put]) (by exact (own5.alloc (.cells #[.int .i64 y0, .int .i64 y1, .int .i64 0] 26))) ⟨w5.heap.size, 0, none⟩ 1 1 [.int .i64 y0, .int .i64 y1, .int .i64 0] (by simp [Act.eval, Act.put]) rfl (by exact (row_news (rowAt_alloc w5 _ _))) (by intro u hu; simp at hu; rcases hu with rfl | rfl | rfl <;> rfl) (by unfold maxLen; omega) (by omega) (by have := B5.size; simp; try omega) ?_; intro v6 w6 own6 grow6; obtain ⟨a6, cap6, rfl⟩ := own_form own6; have B6 : Below W0.heap.size W0 w6 := grown_below (B5.alloc B5.size (.cells #[.int .i64 y0, .int .i64 y1, .int .i64 0] 26)) grow6 (fun kk hkk => (own5.lt kk hkk).1) (by have := B5.size; simp; try omega); have X6 := x0.below B6 x0.lt; have Y6 := yy0.below B6 yy0.lt; have Z6 := z0.below B6 z0.lt; have C6a : w6.cell? ⟨w.heap.size, 5, none⟩ = some (.slice (some ⟨B, o, none⟩) es.length cap) := X6.cell 5 (by simp); obtain ⟨C6b, C6c, C6d⟩ := three_cells Y6; have L6a := X6.lt; have L6b := Y6.lt; have L6c := Z6.lt; have F6 := Z6.frozen 5 (by simp); have C6e : w6.cell? ⟨K + 1, 5, none⟩ = some (.slice (some ⟨B, o, none⟩) es.length cap) := Z6.cell 5 (by simp)) | (refine step_append_own rfl (.tmp 85) (.tmp 87) 22 rfl W0.heap.size 26 i0 (.agg #[.int .i64 0, .int .i64 0, .int .i64 0]) 3 24 Try.underlying22 HI.out.1 HI.out.2.1 HI.out.2.2.1 HI.out.2.2.2 rfl (by decide) v5 (0 + es.length) _ (by simp [Act.eval, Act.put]) (by exact own5) ⟨W0.heap.size + 1, 0, none⟩ 1 1 [.int .i64 y0, .int .i64 y1, .int .i64 0] (by simp [Act.eval, Act.put]) rfl (by exact (row_news YB)) (by intro u hu; simp at hu; rcases hu with rfl | rfl | rfl <;> rfl) (by unfold maxLen; omega) (by omega) (by have := B5.size; simp; try omega) ?_; intro v6 w6 own6 grow6; obtain ⟨a6, cap6, rfl⟩ := own_form own6; have B6 : Below W0.heap.size W0 w6 := grown_below B5 grow6 (fun kk hkk => (own5.lt kk hkk).1) (by have := B5.size; simp; try omega); have X6 := x0.below B6 x0.lt; have Y6 := yy0.below B6 yy0.lt; have Z6 := z0.below B6 z0.lt; have C6a : w6.cell? ⟨w.heap.size, 5, none⟩ = some (.slice (some ⟨B, o, none⟩) es.length cap) := X6.cell 5 (by simp); obtain ⟨C6b, C6c, C6d⟩ := three_cells Y6; have L6a := X6.lt; have L6b := Y6.lt; have L6c := Z6.lt; have F6 := Z6.frozen 5 (by simp); have C6e : w6.cell? ⟨K + 1, 5, none⟩ = some (.slice (some ⟨B, o, none⟩) es.length cap) := Z6.cell 5 (by simp)) | (refine step_append_own rfl (.tmp 85) (.tmp 87) 22 rfl W0.heap.size 26 i0 (.agg #[.int .i64 0, .int .i64 0, .int .i64 0]) 3 24 Try.underlying22 HI.out.1 HI.out.2.1 HI.out.2.2.1 HI.out.2.2.2 rfl (by decide) v5 (0 + es.length) _ (by simp [Act.eval, Act.put]) (by exact own5) ⟨W0.heap.size, 0, none⟩ 1 1 [.int .i64 y0, .int .i64 y1, .int .i64 0] (by simp [Act.eval, Act.put]) rfl (by exact (row_news YB)) (by intro u hu; simp at hu; rcases hu with rfl | rfl | rfl <;> rfl) (by unfold maxLen; omega) (by omega) (by have := B5.size; simp; try omega) ?_; intro v6 w6 own6 grow6; obtain ⟨a6, cap6, rfl⟩ := own_form own6; have B6 : Below W0.heap.size W0 w6 := grown_below B5 grow6 (fun kk hkk => (own5.lt kk hkk).1) (by have := B5.size; simp; try omega); have X6 := x0.below B6 x0.lt; have Y6 := yy0.below B6 yy0.lt; have Z6 := z0.below B6 z0.lt; have C6a : w6.cell? ⟨w.heap.size, 5, none⟩ = some (.slice (some ⟨B, o, none⟩) es.length cap) := X6.cell 5 (by simp); obtain ⟨C6b, C6c, C6d⟩ := three_cells Y6; have L6a := X6.lt; have L6b := Y6.lt; have L6c := Z6.lt; have F6 := Z6.frozen 5 (by simp); have C6e : w6.cell? ⟨K + 1, 5, none⟩ = some (.slice (some ⟨B, o, none⟩) es.length cap) := Z6.cell 5 (by simp)) | fail)
      all_goals
        have hz : World.ownsRow w6 W0.heap.size 26 3 (.slice a6 (es.length + 1) cap6) (es.length + 1) (ecells (es ++ [(y0, y1, 0)])) := by
          have := own6
          simp only [Nat.zero_add, List.nil_append] at this
          rw [ecells_append]
          exact this
        obtain ⟨g, rfl, hg, R6⟩ := own_at hz (by omega)
        have BB7 : Below w.heap.size w (w6.setCell ⟨K + 1, 5, none⟩ (.slice (some ⟨g, 0, none⟩) (es.length + 1) cap6)) := (BB0.trans (below_le B6 BB0.size)).setCell (by first | (simp; done) | (simp; omega)) _
        have X7 := X6.other ⟨K + 1, 5, none⟩ (.slice (some ⟨g, 0, none⟩) (es.length + 1) cap6) (by first | (simp; done) | (simp; omega))
        have Z7 := Z6.set 5 (.slice (some ⟨g, 0, none⟩) (es.length + 1) cap6)
        have LA7 := (la0.below B6 la0.lt).other ⟨K + 1, 5, none⟩ (.slice (some ⟨g, 0, none⟩) (es.length + 1) cap6) (by simp)
        have R7 := R6.other ⟨K + 1, 5, none⟩ (.slice (some ⟨g, 0, none⟩) (es.length + 1) cap6) (by first | (simp; done) | (simp; omega))
        clear hz own6 grow6 X6 Y6 Z6 B6 F6 C6a C6b C6c C6d C6e L6a L6b L6c R6 BB0 hE0 x0 yy0 la0 z0 c5 d0 d1 d2 z5 fz5
        go_wp2_with fail
        generalize w6.setCell ⟨K + 1, 5, none⟩ (.slice (some ⟨g, 0, none⟩) (es.length + 1) cap6) = W7 at *
        obtain ⟨c0, c1, c2, c3, c4, c5⟩ := six_cells (show RowAt W7 (K + 1) [.int .i64 k, .bool p, .int .i64 l, .int .i64 sz, .int .i64 d, .slice (some ⟨g, 0, none⟩) (es.length + 1) cap6] from Z7)
        have x5 : W7.cell? ⟨w.heap.size, 5, none⟩ = some (.slice (some ⟨B, o, none⟩) es.length cap) := X7.cell 5 (by simp)
        have hs7 : w.heap.size ≤ W7.heap.size := BB7.size
        have hen : EntS W7 (some ⟨g, 0, none⟩) (es ++ [(y0, y1, 0)]) := .inr ⟨g, 0, rfl, entAt_row R7⟩
        have HEN := Lib.hid hen
        have hbb : ∀ q : Bool, (q != q) = false := by intro q; simp
        clear hen
        go_region_held3 (fun w' => w'.cell? ⟨K + 1, 0, none⟩ = some (.int .i64 k) ∧ w'.cell? ⟨K + 1, 1, none⟩ = some (.bool p) ∧ w'.cell? ⟨K + 1, 2, none⟩ = some (.int .i64 l) ∧ w'.cell? ⟨K + 1, 3, none⟩ = some (.int .i64 sz) ∧ w'.cell? ⟨K + 1, 4, none⟩ = some (.int .i64 d) ∧ w'.cell? ⟨K + 1, 5, none⟩ = some (.slice (some ⟨g, 0, none⟩) (es.length + 1) cap6) ∧ w'.cell? ⟨w.heap.size, 5, none⟩ = some (.slice (some ⟨B, o, none⟩) es.length cap) ∧ RowAt w' (K + 1) [.int .i64 k, .bool p, .int .i64 l, .int .i64 sz, .int .i64 d, .slice (some ⟨g, 0, none⟩) (es.length + 1) cap6] ∧ (RowAt w' w.heap.size ([.int .i64 k, .bool p, .int .i64 l, .int .i64 sz, .int .i64 d, .slice (some ⟨B, o, none⟩) es.length cap] : List Value) ∧ ([.int .i64 k, .bool p, .int .i64 l, .int .i64 sz, .int .i64 d, .slice (some ⟨B, o, none⟩) es.length cap] : List Value)[5]? = some (.slice (some ⟨B, o, none⟩) es.length cap) ∧ 5 < ([.int .i64 k, .bool p, .int .i64 l, .int .i64 sz, .int .i64 d, .slice (some ⟨B, o, none⟩) es.length cap] : List Value).length) ∧ RowAt w' K [.int .i64 l0, .int .i64 l1, .int .i64 l2] ∧ RowAt w' g (ecells (es ++ [(y0, y1, 0)])) ∧ Below w.heap.size w w' ∧ w.heap.size ≤ w'.heap.size) (first | (exact more_keep ⟨c0, c1, c2, c3, c4, c5, x5, Z7, ⟨X7, rfl, by simp⟩, LA7, R7, BB7, hs7⟩ ((Below.refl _ _).drew)) | (exact more_keep (by assumption) (by assumption)))
          (first | (go_at_call 19; refine (HM.out 0 (by first | exact .inl ⟨hdp, rfl⟩ | exact .inr ⟨rfl, rfl⟩ | exact .inr ⟨trivial, rfl⟩ | (right; simp)) g1 g2 g3 g4 g5 g6 g7 _ _ _ (by exact HEN.out.drew)).mono ?_; rintro e w' ⟨rfl, hb'⟩))
        obtain ⟨Z8, X8, LA8, R8, B8⟩ := more_ends (W := w') (by assumption)
        clear c0 c1 c2 c3 c4 c5 x5
        have lx8 := X8.lt
        have c4 : w'.cell? ⟨w.heap.size, 4, none⟩ = some (.int .i64 d) := X8.cell 4 (by simp)
        go_wp2_with fail
        refine (HA.out _).mono ?_
        rintro e w11 ⟨rfl, hb11⟩
        have B11 := below_chain B8 hb11 B8.size
        go_wp2_with fail
        go_ret
        exact ⟨rfl, B11⟩
    · obtain rfl : d = 0 := by omega
      go_wp2_with fail
      have hE0 := (hE1.alloc (.cells #[.int .i64 l0, .int .i64 l1, .int .i64 l2] 26)).alloc (.cells #[.int .i64 k, .bool p, .int .i64 l, .int .i64 sz, .int .i64 0, .slice (some ⟨B, o, none⟩) es.length cap] 24)
      have x0 := (r1.alloc (.cells #[.int .i64 l0, .int .i64 l1, .int .i64 l2] 26)).alloc (.cells #[.int .i64 k, .bool p, .int .i64 l, .int .i64 sz, .int .i64 0, .slice (some ⟨B, o, none⟩) es.length cap] 24)
      have yy0 := (s1.alloc (.cells #[.int .i64 l0, .int .i64 l1, .int .i64 l2] 26)).alloc (.cells #[.int .i64 k, .bool p, .int .i64 l, .int .i64 sz, .int .i64 0, .slice (some ⟨B, o, none⟩) es.length cap] 24)
      have la0 := (rowAt_alloc w1 #[.int .i64 l0, .int .i64 l1, .int .i64 l2] 26).alloc (.cells #[.int .i64 k, .bool p, .int .i64 l, .int .i64 sz, .int .i64 0, .slice (some ⟨B, o, none⟩) es.length cap] 24)
      have z0 := rowAt_alloc (w1.alloc (.cells #[.int .i64 l0, .int .i64 l1, .int .i64 l2] 26)) #[.int .i64 k, .bool p, .int .i64 l, .int .i64 sz, .int .i64 0, .slice (some ⟨B, o, none⟩) es.length cap] 24
      have BB0 := (B1.alloc B1.size (.cells #[.int .i64 l0, .int .i64 l1, .int .i64 l2] 26)).alloc (by simp; have := B1.size; omega) (.cells #[.int .i64 k, .bool p, .int .i64 l, .int .i64 sz, .int .i64 0, .slice (some ⟨B, o, none⟩) es.length cap] 24)
      rw [World.size_alloc] at z0
      generalize (w1.alloc (.cells #[.int .i64 l0, .int .i64 l1, .int .i64 l2] 26)).alloc (.cells #[.int .i64 k, .bool p, .int .i64 l, .int .i64 sz, .int .i64 0, .slice (some ⟨B, o, none⟩) es.length cap] 24) = W0 at *
      have hKK : w.heap.size + 2 ≤ w1.heap.size := s1.lt
      generalize w1.heap.size = K at *
      clear c0 c1 c2 c3 c4 c5 d0 d1 d2 e0 e1 e2 lr1 ls1 fs2 hBl hE1 r1 s1 B1 hb1 r0 s0 B0
      have c5 : W0.cell? ⟨w.heap.size, 5, none⟩ = some (.slice (some ⟨B, o, none⟩) es.length cap) := x0.cell 5 (by simp)
      obtain ⟨d0, d1, d2⟩ := three_cells yy0
      have z5 : W0.cell? ⟨K + 1, 5, none⟩ = some (.slice (some ⟨B, o, none⟩) es.length cap) := z0.cell 5 (by simp)
      have fz5 := z0.frozen 5 (by simp)
      have lx := x0.lt
      have ly := yy0.lt
      have lz := z0.lt
      obtain ⟨i0, hi, hz0, hz1, hz2⟩ := info_parts info_ent
      have HI := Lib.hid (And.intro hi (And.intro hz0 (And.intro hz1 hz2)))
      clear hi hz0 hz1 hz2
      go_region_held3 (fun w' => w'.cell? ⟨w.heap.size, 5, none⟩ = some (.slice (some ⟨B, o, none⟩) es.length cap) ∧ w'.cell? ⟨w.heap.size + 1, 0, none⟩ = some (.int .i64 y0) ∧ w'.cell? ⟨w.heap.size + 1, 1, none⟩ = some (.int .i64 y1) ∧ w'.cell? ⟨w.heap.size + 1, 2, none⟩ = some (.int .i64 y2)) (first | go_keep | exact ⟨C5a, C5b, C5c, C5d⟩ | exact ⟨C6a, C6b, C6c, C6d⟩ | exact ⟨(X6.other ⟨K + 1, 5, none⟩ _ (by first | (simp; done) | (simp; omega))).cell 5 (by simp), (three_cells (Y6.other ⟨K + 1, 5, none⟩ _ (by first | (simp; done) | (simp; omega)))).1, (three_cells (Y6.other ⟨K + 1, 5, none⟩ _ (by first | (simp; done) | (simp; omega)))).2.1, (three_cells (Y6.other ⟨K + 1, 5, none⟩ _ (by first | (simp; done) | (simp; omega)))).2.2⟩) (first | (refine step_append_own rfl (.tmp 82) (.tmp 84) 22 rfl W0.heap.size 26 i0 (.agg #[.int .i64 0, .int .i64 0, .int .i64 0]) 3 24 Try.underlying22 HI.out.1 HI.out.2.1 HI.out.2.2.1 HI.out.2.2.2 rfl (by decide) (.slice (some ⟨W0.heap.size, 0, none⟩) 0 0) 0 [] (by simp [Act.eval, Act.put]) (by exact (World.ownsRow_lit W0.drew #[] 0 (Nat.le_refl _) (by decide) rfl)) ⟨B, o, none⟩ es.length cap (ecells es) (by simp [Act.eval, Act.put]) (ecells_length es) (by exact ents_news (hE0.alloc (.cells #[] 26))) (ecells_one es) (by unfold maxLen; omega) (by omega) (by simp; try omega) ?_; intro v5 w5 own5 grow5; have B5 : Below W0.heap.size W0 w5 := grown_below ((Below.refl W0.heap.size W0).drew.alloc (Nat.le_refl _) (.cells #[] 26)) grow5 (by intro kk hkk; have := Option.some.inj hkk; simp at this; omega) (by simp; try omega); have X5 := x0.below B5 x0.lt; have Y5 := yy0.below B5 yy0.lt; have Z5 := z0.below B5 z0.lt; have C5a : w5.cell? ⟨w.heap.size, 5, none⟩ = some (.slice (some ⟨B, o, none⟩) es.length cap) := X5.cell 5 (by simp); obtain ⟨C5b, C5c, C5d⟩ := three_cells Y5; have L5a := X5.lt; have L5b := Y5.lt; have L5c := Z5.lt) | (refine step_append_own rfl (.tmp 82) (.tmp 84) 22 rfl W0.heap.size 26 i0 (.agg #[.int .i64 0, .int .i64 0, .int .i64 0]) 3 24 Try.underlying22 HI.out.1 HI.out.2.1 HI.out.2.2.1 HI.out.2.2.2 rfl (by decide) (.slice (some ⟨W0.heap.size, 0, none⟩) 0 0) 0 [] (by simp [Act.eval, Act.put]) (by exact ((World.ownsRow_lit W0.drew #[] 0 (Nat.le_refl _) (by decide) rfl).alloc (.cells #[.int .i64 y0, .int .i64 y1, .int .i64 y2] 26))) ⟨B, o, none⟩ es.length cap (ecells es) (by simp [Act.eval, Act.put]) (ecells_length es) (by exact ents_news ((hE0.alloc (.cells #[] 26)).alloc (.cells #[.int .i64 y0, .int .i64 y1, .int .i64 y2] 26))) (ecells_one es) (by unfold maxLen; omega) (by omega) (by simp; try omega) ?_; intro v5 w5 own5 grow5; have B5 : Below W0.heap.size W0 w5 := grown_below (((Below.refl W0.heap.size W0).drew.alloc (Nat.le_refl _) (.cells #[] 26)).alloc (by simp) (.cells #[.int .i64 y0, .int .i64 y1, .int .i64 y2] 26)) grow5 (by intro kk hkk; have := Option.some.inj hkk; simp at this; omega) (by simp; try omega); have X5 := x0.below B5 x0.lt; have Y5 := yy0.below B5 yy0.lt; have Z5 := z0.below B5 z0.lt; have C5a : w5.cell? ⟨w.heap.size, 5, none⟩ = some (.slice (some ⟨B, o, none⟩) es.length cap) := X5.cell 5 (by simp); obtain ⟨C5b, C5c, C5d⟩ := three_cells Y5; have L5a := X5.lt; have L5b := Y5.lt; have L5c := Z5.lt; have yb : RowAt ((W0.drew.alloc (.cells #[] 26)).alloc (.cells #[.int .i64 y0, .int .i64 y1, .int .i64 y2] 26)) (W0.heap.size + 1) [.int .i64 y0, .int .i64 y1, .int .i64 y2] := (by have := rowAt_alloc (W0.drew.alloc (.cells #[] 26)) #[.int .i64 y0, .int .i64 y1, .int .i64 y2] 26; rw [World.size_alloc] at this; exact this); have YB := RowAt.grown (w := (W0.drew.alloc (.cells #[] 26)).alloc (.cells #[.int .i64 y0, .int .i64 y1, .int .i64 y2] 26)) yb grow5 (by simp [Value.ownBlock])) | (refine step_append_own rfl (.tmp 82) (.tmp 84) 22 rfl W0.heap.size 26 i0 (.agg #[.int .i64 0, .int .i64 0, .int .i64 0]) 3 24 Try.underlying22 HI.out.1 HI.out.2.1 HI.out.2.2.1 HI.out.2.2.2 rfl (by decide) (.slice (some ⟨W0.heap.size + 1, 0, none⟩) 0 0) 0 [] (by simp [Act.eval, Act.put]) (by exact (show World.ownsRow ((W0.drew.alloc (.cells #[.int .i64 y0, .int .i64 y1, .int .i64 y2] 26)).alloc (.cells #[] 26)) W0.heap.size 26 3 (.slice (some ⟨W0.heap.size + 1, 0, none⟩) 0 0) 0 [] from (by have := World.ownsRow_lit (base := W0.heap.size) (e := 26) (size := 3) (W0.drew.alloc (.cells #[.int .i64 y0, .int .i64 y1, .int .i64 y2] 26)) #[] 0 (by simp) (by decide) rfl; rw [World.size_alloc] at this; exact this))) ⟨B, o, none⟩ es.length cap (ecells es) (by simp [Act.eval, Act.put]) (ecells_length es) (by exact ents_news ((hE0.alloc (.cells #[.int .i64 y0, .int .i64 y1, .int .i64 y2] 26)).alloc (.cells #[] 26))) (ecells_one es) (by unfold maxLen; omega) (by omega) (by simp; try omega) ?_; intro v5 w5 own5 grow5; have B5 : Below W0.heap.size W0 w5 := grown_below (((Below.refl W0.heap.size W0).drew.alloc (Nat.le_refl _) (.cells #[.int .i64 y0, .int .i64 y1, .int .i64 y2] 26)).alloc (by simp) (.cells #[] 26)) grow5 (by intro kk hkk; have := Option.some.inj hkk; simp at this; omega) (by simp; try omega); have X5 := x0.below B5 x0.lt; have Y5 := yy0.below B5 yy0.lt; have Z5 := z0.below B5 z0.lt; have C5a : w5.cell? ⟨w.heap.size, 5, none⟩ = some (.slice (some ⟨B, o, none⟩) es.length cap) := X5.cell 5 (by simp); obtain ⟨C5b, C5c, C5d⟩ := three_cells Y5; have L5a := X5.lt; have L5b := Y5.lt; have L5c := Z5.lt; have yb : RowAt ((W0.drew.alloc (.cells #[.int .i64 y0, .int .i64 y1, .int .i64 y2] 26)).alloc (.cells #[] 26)) W0.heap.size [.int .i64 y0, .int .i64 y1, .int .i64 y2] := (rowAt_alloc W0.drew #[.int .i64 y0, .int .i64 y1, .int .i64 y2] 26).alloc (.cells #[] 26); have YB := RowAt.grown (w := (W0.drew.alloc (.cells #[.int .i64 y0, .int .i64 y1, .int .i64 y2] 26)).alloc (.cells #[] 26)) yb grow5 (by simp [Value.ownBlock])) | (refine step_append_own rfl (.tmp 85) (.tmp 87) 22 rfl W0.heap.size 26 i0 (.agg #[.int .i64 0, .int .i64 0, .int .i64 0]) 3 24 Try.underlying22 HI.out.1 HI.out.2.1 HI.out.2.2.1 HI.out.2.2.2 rfl (by decide) v5 (0 + es.length) _ (by simp [Act.eval, Act.put]) (by exact (own5.alloc (.cells #[.int .i64 y0, .int .i64 y1, .int .i64 y2] 26))) ⟨w5.heap.size, 0, none⟩ 1 1 [.int .i64 y0, .int .i64 y1, .int .i64 y2] (by simp [Act.eval, Act.put]) rfl (by exact (row_news (rowAt_alloc w5 _ _))) (by intro u hu; simp at hu; rcases hu with rfl | rfl | rfl <;> rfl) (by unfold maxLen; omega) (by omega) (by have := B5.size; simp; try omega) ?_; intro v6 w6 own6 grow6; obtain ⟨a6, cap6, rfl⟩ := own_form own6; have B6 : Below W0.heap.size W0 w6 := grown_below (B5.alloc B5.size (.cells #[.int .i64 y0, .int .i64 y1, .int .i64 y2] 26)) grow6 (fun kk hkk => (own5.lt kk hkk).1) (by have := B5.size; simp; try omega); have X6 := x0.below B6 x0.lt; have Y6 := yy0.below B6 yy0.lt; have Z6 := z0.below B6 z0.lt; have C6a : w6.cell? ⟨w.heap.size, 5, none⟩ = some (.slice (some ⟨B, o, none⟩) es.length cap) := X6.cell 5 (by simp); obtain ⟨C6b, C6c, C6d⟩ := three_cells Y6; have L6a := X6.lt; have L6b := Y6.lt; have L6c := Z6.lt; have F6 := Z6.frozen 5 (by simp); have C6e : w6.cell? ⟨K + 1, 5, none⟩ = some (.slice (some ⟨B, o, none⟩) es.length cap) := Z6.cell 5 (by simp)) | (refine step_append_own rfl (.tmp 85) (.tmp 87) 22 rfl W0.heap.size 26 i0 (.agg #[.int .i64 0, .int .i64 0, .int .i64 0]) 3 24 Try.underlying22 HI.out.1 HI.out.2.1 HI.out.2.2.1 HI.out.2.2.2 rfl (by decide) v5 (0 + es.length) _ (by simp [Act.eval, Act.put]) (by exact own5) ⟨W0.heap.size + 1, 0, none⟩ 1 1 [.int .i64 y0, .int .i64 y1, .int .i64 y2] (by simp [Act.eval, Act.put]) rfl (by exact (row_news YB)) (by intro u hu; simp at hu; rcases hu with rfl | rfl | rfl <;> rfl) (by unfold maxLen; omega) (by omega) (by have := B5.size; simp; try omega) ?_; intro v6 w6 own6 grow6; obtain ⟨a6, cap6, rfl⟩ := own_form own6; have B6 : Below W0.heap.size W0 w6 := grown_below B5 grow6 (fun kk hkk => (own5.lt kk hkk).1) (by have := B5.size; simp; try omega); have X6 := x0.below B6 x0.lt; have Y6 := yy0.below B6 yy0.lt; have Z6 := z0.below B6 z0.lt; have C6a : w6.cell? ⟨w.heap.size, 5, none⟩ = some (.slice (some ⟨B, o, none⟩) es.length cap) := X6.cell 5 (by simp); obtain ⟨C6b, C6c, C6d⟩ := three_cells Y6; have L6a := X6.lt; have L6b := Y6.lt; have L6c := Z6.lt; have F6 := Z6.frozen 5 (by simp); have C6e : w6.cell? ⟨K + 1, 5, none⟩ = some (.slice (some ⟨B, o, none⟩) es.length cap) := Z6.cell 5 (by simp)) | (refine step_append_own rfl (.tmp 85) (.tmp 87) 22 rfl W0.heap.size 26 i0 (.agg #[.int .i64 0, .int .i64 0, .int .i64 0]) 3 24 Try.underlying22 HI.out.1 HI.out.2.1 HI.out.2.2.1 HI.out.2.2.2 rfl (by decide) v5 (0 + es.length) _ (by simp [Act.eval, Act.put]) (by exact own5) ⟨W0.heap.size, 0, none⟩ 1 1 [.int .i64 y0, .int .i64 y1, .int .i64 y2] (by simp [Act.eval, Act.put]) rfl (by exact (row_news YB)) (by intro u hu; simp at hu; rcases hu with rfl | rfl | rfl <;> rfl) (by unfold maxLen; omega) (by omega) (by have := B5.size; simp; try omega) ?_; intro v6 w6 own6 grow6; obtain ⟨a6, cap6, rfl⟩ := own_form own6; have B6 : Below W0.heap.size W0 w6 := grown_below B5 grow6 (fun kk hkk => (own5.lt kk hkk).1) (by have := B5.size; simp; try omega); have X6 := x0.below B6 x0.lt; have Y6 := yy0.below B6 yy0.lt; have Z6 := z0.below B6 z0.lt; have C6a : w6.cell? ⟨w.heap.size, 5, none⟩ = some (.slice (some ⟨B, o, none⟩) es.length cap) := X6.cell 5 (by simp); obtain ⟨C6b, C6c, C6d⟩ := three_cells Y6; have L6a := X6.lt; have L6b := Y6.lt; have L6c := Z6.lt; have F6 := Z6.frozen 5 (by simp); have C6e : w6.cell? ⟨K + 1, 5, none⟩ = some (.slice (some ⟨B, o, none⟩) es.length cap) := Z6.cell 5 (by simp)) | fail)
      all_goals
        have hz : World.ownsRow w6 W0.heap.size 26 3 (.slice a6 (es.length + 1) cap6) (es.length + 1) (ecells (es ++ [(y0, y1, y2)])) := by
          have := own6
          simp only [Nat.zero_add, List.nil_append] at this
          rw [ecells_append]
          exact this
        obtain ⟨g, rfl, hg, R6⟩ := own_at hz (by omega)
        have BB7 : Below w.heap.size w (w6.setCell ⟨K + 1, 5, none⟩ (.slice (some ⟨g, 0, none⟩) (es.length + 1) cap6)) := (BB0.trans (below_le B6 BB0.size)).setCell (by first | (simp; done) | (simp; omega)) _
        have X7 := X6.other ⟨K + 1, 5, none⟩ (.slice (some ⟨g, 0, none⟩) (es.length + 1) cap6) (by first | (simp; done) | (simp; omega))
        have Z7 := Z6.set 5 (.slice (some ⟨g, 0, none⟩) (es.length + 1) cap6)
        have LA7 := (la0.below B6 la0.lt).other ⟨K + 1, 5, none⟩ (.slice (some ⟨g, 0, none⟩) (es.length + 1) cap6) (by simp)
        have R7 := R6.other ⟨K + 1, 5, none⟩ (.slice (some ⟨g, 0, none⟩) (es.length + 1) cap6) (by first | (simp; done) | (simp; omega))
        clear hz own6 grow6 X6 Y6 Z6 B6 F6 C6a C6b C6c C6d C6e L6a L6b L6c R6 BB0 hE0 x0 yy0 la0 z0 c5 d0 d1 d2 z5 fz5
        go_wp2_with fail
        generalize w6.setCell ⟨K + 1, 5, none⟩ (.slice (some ⟨g, 0, none⟩) (es.length + 1) cap6) = W7 at *
        obtain ⟨c0, c1, c2, c3, c4, c5⟩ := six_cells (show RowAt W7 (K + 1) [.int .i64 k, .bool p, .int .i64 l, .int .i64 sz, .int .i64 0, .slice (some ⟨g, 0, none⟩) (es.length + 1) cap6] from Z7)
        have x5 : W7.cell? ⟨w.heap.size, 5, none⟩ = some (.slice (some ⟨B, o, none⟩) es.length cap) := X7.cell 5 (by simp)
        have hs7 : w.heap.size ≤ W7.heap.size := BB7.size
        have hen : EntS W7 (some ⟨g, 0, none⟩) (es ++ [(y0, y1, y2)]) := .inr ⟨g, 0, rfl, entAt_row R7⟩
        have HEN := Lib.hid hen
        have hbb : ∀ q : Bool, (q != q) = false := by intro q; simp
        clear hen
        go_region_held3 (fun w' => w'.cell? ⟨K + 1, 0, none⟩ = some (.int .i64 k) ∧ w'.cell? ⟨K + 1, 1, none⟩ = some (.bool p) ∧ w'.cell? ⟨K + 1, 2, none⟩ = some (.int .i64 l) ∧ w'.cell? ⟨K + 1, 3, none⟩ = some (.int .i64 sz) ∧ w'.cell? ⟨K + 1, 4, none⟩ = some (.int .i64 0) ∧ w'.cell? ⟨K + 1, 5, none⟩ = some (.slice (some ⟨g, 0, none⟩) (es.length + 1) cap6) ∧ w'.cell? ⟨w.heap.size, 5, none⟩ = some (.slice (some ⟨B, o, none⟩) es.length cap) ∧ RowAt w' (K + 1) [.int .i64 k, .bool p, .int .i64 l, .int .i64 sz, .int .i64 0, .slice (some ⟨g, 0, none⟩) (es.length + 1) cap6] ∧ (RowAt w' w.heap.size ([.int .i64 k, .bool p, .int .i64 l, .int .i64 sz, .int .i64 0, .slice (some ⟨B, o, none⟩) es.length cap] : List Value) ∧ ([.int .i64 k, .bool p, .int .i64 l, .int .i64 sz, .int .i64 0, .slice (some ⟨B, o, none⟩) es.length cap] : List Value)[5]? = some (.slice (some ⟨B, o, none⟩) es.length cap) ∧ 5 < ([.int .i64 k, .bool p, .int .i64 l, .int .i64 sz, .int .i64 0, .slice (some ⟨B, o, none⟩) es.length cap] : List Value).length) ∧ RowAt w' K [.int .i64 l0, .int .i64 l1, .int .i64 l2] ∧ RowAt w' g (ecells (es ++ [(y0, y1, y2)])) ∧ Below w.heap.size w w' ∧ w.heap.size ≤ w'.heap.size) (first | (exact more_keep ⟨c0, c1, c2, c3, c4, c5, x5, Z7, ⟨X7, rfl, by simp⟩, LA7, R7, BB7, hs7⟩ ((Below.refl _ _).drew)) | (exact more_keep (by assumption) (by assumption)))
          (first | (go_at_call 19; refine (HM.out y2 (by first | exact .inl ⟨hdp, rfl⟩ | exact .inr ⟨rfl, rfl⟩ | exact .inr ⟨trivial, rfl⟩ | (right; simp)) g1 g2 g3 g4 g5 g6 g7 _ _ _ (by exact HEN.out.drew)).mono ?_; rintro e w' ⟨rfl, hb'⟩))
        obtain ⟨Z8, X8, LA8, R8, B8⟩ := more_ends (W := w') (by assumption)
        clear c0 c1 c2 c3 c4 c5 x5
        have lx8 := X8.lt
        have c4 : w'.cell? ⟨w.heap.size, 4, none⟩ = some (.int .i64 0) := X8.cell 4 (by simp)
        have c5 : w'.cell? ⟨w.heap.size, 5, none⟩ = some (.slice (some ⟨B, o, none⟩) es.length cap) := X8.cell 5 (by simp)
        have z5 : w'.cell? ⟨K + 1, 5, none⟩ = some (.slice (some ⟨g, 0, none⟩) (es.length + 1) cap6) := Z8.cell 5 (by simp)
        obtain ⟨e0, e1, e2⟩ := three_cells LA8
        have hlen := ecells_length (es ++ [(y0, y1, y2)])
        have hlen2 : es.length * 3 < (ecells (es ++ [(y0, y1, y2)])).length := by rw [hlen]; first | (simp; done) | (simp; omega)
        obtain ⟨old, h0⟩ := R8.there (es.length * 3) hlen2
        have f0 := R8.frozen (es.length * 3) hlen2
        have lg := R8.lt
        have hj0 : (0 : Int) ≤ (es.length : Int) := by omega
        have hj1 : (es.length : Int) < ((es.length + 1 : Nat) : Int) := by omega
        have hj2 : (es.length : Int) < (es.length : Int) + 1 := by omega
        have R9 := R8.set (es.length * 3) (.int .i64 (l0 + l2 - 1))
        rw [ecells_set_last] at R9
        have Z9 := Z8.other ⟨g, es.length * 3, none⟩ (.int .i64 (l0 + l2 - 1)) (by first | (simp; done) | (simp; omega))
        have B9 : Below w.heap.size w (w'.setCell ⟨g, es.length * 3, none⟩ (.int .i64 (l0 + l2 - 1))) := B8.setCell (by first | (simp; done) | (simp; omega)) _
        have HEN9 := Lib.hid (show EntS (w'.setCell ⟨g, es.length * 3, none⟩ (.int .i64 (l0 + l2 - 1))) (some ⟨g, 0, none⟩) (es ++ [(l0 + l2 - 1, y1, y2)]) from .inr ⟨g, 0, rfl, entAt_row R9⟩)
        obtain ⟨q0, q1, q2, q3, q4, q5⟩ := six_cells Z8
        clear hlen hlen2
        go_wp2_with fail
        refine (HN.out _ _ _ HEN9.out).mono ?_
        rintro e w10 ⟨rfl, hb10⟩
        have B10 := below_chain B9 hb10 B9.size
        clear c4 c5 z5 e0 e1 e2 h0 f0 q0 q1 q2 q3 q4 q5
        go_wp2_with fail
        refine (HA.out _).mono ?_
        rintro e w11 ⟨rfl, hb11⟩
        have B11 := below_chain B10 hb11 B10.size
        go_wp2_with fail
        go_ret
        exact ⟨rfl, B11⟩
  · go_enter Try.func7, Try.ntmps7
    go_wp2_with fail
    refine (HK.out _ B0).mono ?_
    rintro e w1 ⟨rfl, hb1⟩
    have B1 := below_chain B0 hb1 B0.size
    have r1 := r0.below hb1 r0.lt
    have s1 := s0.below hb1 s0.lt
    have hE1 := hE.below B1 hE.1
    obtain ⟨c0, c1, c2, c3, c4, c5⟩ := six_cells r1
    obtain ⟨d0, d1, d2⟩ := three_cells s1
    obtain ⟨e0, e1, e2⟩ := hE1.at_ _ _ hl
    have lr1 := r1.lt
    have ls1 := s1.lt
    have hBl := hE1.1
    have hcase : y0 ≤ l0 ∨ (l0 < y0 ∧ y0 < l0 + l2) ∨ (l0 < y0 ∧ l0 + l2 ≤ y0 ∧ 1000 < y0) ∨ (l0 < y0 ∧ l0 + l2 ≤ y0 ∧ y0 ≤ 1000 ∧ y1 < 1) ∨ (l0 < y0 ∧ l0 + l2 ≤ y0 ∧ y0 ≤ 1000 ∧ 1 ≤ y1 ∧ 2000 < y1) ∨ (l0 < y0 ∧ l0 + l2 ≤ y0 ∧ y0 ≤ 1000 ∧ 1 ≤ y1 ∧ y1 ≤ 2000 ∧ y2 < 1) ∨ (l0 < y0 ∧ l0 + l2 ≤ y0 ∧ y0 ≤ 1000 ∧ 1 ≤ y1 ∧ y1 ≤ 2000 ∧ 1 ≤ y2 ∧ 1000 < y2) := by omega
    clear hg
    rcases hcase with h1 | ⟨h1, h2⟩ | ⟨h1, h2, h3⟩ | ⟨h1, h2, h3, h4⟩ | ⟨h1, h2, h3, h4, h5⟩ | ⟨h1, h2, h3, h4, h5, h6⟩ | ⟨h1, h2, h3, h4, h5, h6, h7⟩
    all_goals
      go_wp2_with fail
      refine (HA.out _).mono ?_
      rintro e w11 ⟨rfl, hb11⟩
      have B11 := below_chain (B1.alloc B1.size _) hb11 (B1.alloc B1.size _).size
      go_wp2_with fail
      go_ret
      exact ⟨rfl, B11⟩

theorem walk_inodesMore (w : World) (x : Ino) (a : Option Addr) (cap : Nat) (_ : i64B x.k) (_ : i64B x.l) (_ : i64B x.s) (_ : i64B x.d) (hc : x.es.length ≤ cap) (_ : cap ≤ maxLen) (hE : EntS w a x.es) (_ : ∀ y ∈ x.es, i64B y.1 ∧ i64B y.2.1 ∧ i64B y.2.2)
    (y0 y1 y2 : Int) (_ : ∀ z ∈ [y0, y1, y2], -9223372036854775808 ≤ z ∧ z ≤ 9223372036854775807) :
    Calls Try.prog 7 #[inoV x a cap, ev y0 y1 y2] w fun e w' => e = .returned (.bool true) ∧ Below w.heap.size w w' := by
  by_cases hn : x.es.length ≤ 1000
  · have HK := Lib.hid (fun W (hb : Below w.heap.size w W) => icheck_any x a cap W (by omega) (hE.below hb (Nat.le_refl _)))
    by_cases hk : x.ok = true
    · by_cases h0 : x.k = 0
      · exact inoMore_skip w x.k x.p x.l x.s x.d a x.es.length cap y0 y1 y2 x.ok (.inr ⟨hn, .inr (.inl ⟨hk, h0⟩)⟩) (fun _ => HK)
      · have hk12 : (x.k = 1 ∨ x.k = 2) ∧ 0 ≤ x.d ∧ x.d ≤ 4 ∧ rowOk x.es (x.d == 0) = true := by
          rcases x.ok_iff.1 hk with ⟨h1, _⟩ | ⟨h1, _, _, _, _, h2, h3, _, _, h4⟩
          · exact absurd h1 h0
          · exact ⟨h1, h2, h3, h4⟩
        by_cases hp : 0 < x.es.length
        · rcases hE with he | ⟨B, o, rfl, hE⟩
          · rw [he] at hp; exact absurd hp (by simp)
          · obtain ⟨⟨l0, l1, l2⟩, hl⟩ : ∃ last, x.es[x.es.length - 1]? = some last := ⟨_, List.getElem?_eq_getElem (by omega)⟩
            have hsm := row_small hk12.2.2.2 _ (List.mem_of_getElem? hl)
            rw [hk] at HK
            refine inoMore_core w x.k x.p x.l x.s x.d B o x.es cap y0 y1 y2 hE hn hp (by omega) (by omega) ⟨hk12.2.1, hk12.2.2.1⟩ l0 l1 l2 hl ⟨hsm.1, hsm.2.1⟩ ⟨hsm.2.2.2.2.1, hsm.2.2.2.2.2⟩ HK (Lib.hid ?_) (Lib.hid ?_)
            · intro y2' hy g1 g2 g3 g4 g5 g6 g7 W a' cap' hE'
              have := icheck_any ⟨x.k, x.p, x.l, x.s, x.d, x.es ++ [(y0, y1, y2')]⟩ a' cap' W (by simp; omega) hE'
              rw [more_ok hk h0 hl (y0, y1, y2') g1 g2 g3 g4 g5 (by rcases hy with ⟨a, b⟩ | ⟨a, b⟩ <;> simp only [] <;> omega)] at this
              have e : decide (x.es.length < 4) = decide ((x.es.length : Int) < 4) := by rw [decide_eq_decide]; omega
              rw [e] at this
              simp only [inoV, List.length_append, List.length_singleton] at this
              exact this
            · intro W a' cap' hE'
              have := icheck_any ⟨x.k, x.p, x.l, x.s, x.d, x.es ++ [(l0 + l2 - 1, y1, y2)]⟩ a' cap' W (by simp; omega) hE'
              rw [more_no h0 hl (l0 + l2 - 1, y1, y2) (by simp only []; omega)] at this
              simp only [inoV, List.length_append, List.length_singleton] at this
              exact this
        · exact inoMore_skip w x.k x.p x.l x.s x.d a x.es.length cap y0 y1 y2 x.ok (.inr ⟨hn, .inr (.inr ⟨hk, by omega, by omega⟩)⟩) (fun _ => HK)
    · exact inoMore_skip w x.k x.p x.l x.s x.d a x.es.length cap y0 y1 y2 x.ok (.inr ⟨hn, .inl (by simpa using hk)⟩) (fun _ => HK)
  · exact inoMore_skip w x.k x.p x.l x.s x.d a x.es.length cap y0 y1 y2 true (.inl (by omega)) (fun h => absurd h hn)

/-! ### the frame (printed by mklaw.py) -/

set_option maxRecDepth 100000 in
theorem lifted_inodesMore (os : Os) (started : os.Started) (H : Type) (enc : TypeId × Value → H) :
    ReturnsInHanded {} Try.checked os 7 .any (Rows.inodesMoreSpec.pre6 enc Try.prog Try.f7 Rows.inodesMoreRow.domain false) (Rows.inodesMoreSpec.post enc Try.prog Try.f7 false true false false) := by
  refine law_step (C := Try.checked) (tb := 4) (by kernel_rfl) (by kernel_rfl) started (by kernel_rfl) Try.func7 rfl Try.underlying4 rfl ?_ ?_
    (ChangeSpec.witness6 (enc := enc) (C := Try.checked) false ⟨#[], #[.agg #[.int .i64 0, .bool false, .int .i64 0, .int .i64 0, .int .i64 0, .slice none 0 0], .agg #[.int .i64 0, .int .i64 0, .int .i64 0]], []⟩ 8 (by kernel_rfl) (by kernel_rfl) (by kernel_rfl) (by kernel_rfl)) ?_
  · intro ds hl
    match ds, hl with
    | [d0, d1], _ => rfl
  · intro t ht
    rw [show Try.f7.params.toList = [24, 26] from by rw [Try.params7]] at ht
    simp only [List.mem_cons, List.not_mem_nil, or_false] at ht
    rcases ht with rfl | rfl
    · exact ⟨by kernel_rfl, of_decide_eq_true (by kernel_rfl)⟩
    · exact ⟨by kernel_rfl, of_decide_eq_true (by kernel_rfl)⟩
  · intro W args hG
    rw [show Try.f7.params.toList = [24, 26] from by rw [Try.params7]] at hG
    obtain ⟨v0, v1, rfl, g0, g1⟩ := gotAll_args2 hG
    obtain ⟨k0, p0, l0, s0, d0, a0, cap0, es0, rfl, bk0, bl0, bs0, bd0, hc0, hm0, hE0, hz0⟩ := got_ino g0
    obtain ⟨zs1, rfl, zl1, zh1⟩ := got_flat (k := .i64) (n := 3) (by kernel_rfl) g1
    obtain ⟨z1_0, z1_1, z1_2, rfl⟩ : ∃ z1_0 z1_1 z1_2, zs1 = [z1_0, z1_1, z1_2] := by
      match zs1, zl1 with
      | [z1_0, z1_1, z1_2], _ => exact ⟨z1_0, z1_1, z1_2, rfl⟩
    exact walk_inodesMore W ⟨k0, p0, l0, s0, d0, es0⟩ a0 cap0 bk0 bl0 bs0 bd0 hc0 hm0 hE0 hz0 z1_0 z1_1 z1_2 (fun z hz => has_i64 (zh1 z hz))

theorem inodesMore_over : Rows.inodesMoreRow.holds Try.pinned (OpenSpec.ofChange Rows.inodesMoreSpec) :=
  OpenClaim.holds_of_wide 7 Try.f7 rfl rfl rfl rfl rfl rfl rfl ⟨rfl, rfl, rfl, rfl, rfl⟩ rfl rfl rfl rfl rfl (by kernel_rfl) Try.func7 (by kernel_rfl)
    (of_decide_eq_true (by kernel_rfl)) (by unfold Func.isWrapper; first | (rw [if_pos (by decide +kernel)]; kernel_rfl) | (rw [if_neg (by decide +kernel)]; exact ⟨rfl, rfl⟩))
    (fun os started H enc _ => lifted_inodesMore os started H enc)

theorem inodesMore_holds : Rows.InodesMoreSaid := inodesMore_over
#print axioms inodesMore_holds

end Go.Proofs.Ytdeemaafngehoaa
