/- The walk of glissadelaw11.InodesEncode where the entries lie: what is carried along. -/
import Derived.Test.YtdeemaafngehoaaInoRef3
import Derived.Test.YtdeemaafngehoaaInoAlive
import Derived.Test.YtdeemaafngehoaaGotIno2
import Derived.Deep.RegionHeld3
import Derived.IntWalk
set_option linter.unusedVariables false
set_option linter.unusedSimpArgs false
set_option maxRecDepth 100000
namespace Go.Proofs.Ytdeemaafngehoaa
open Go.RowKit Go.Joins

/-- the inode's copy, the inode, the entries' row, and all below -/
def EncG (w W : World) (g : Nat) (es : List (Int × Int × Int)) (ts xs : List Value) : Prop := RowAt W (w.heap.size + 1) ts ∧ RowAt W w.heap.size xs ∧ RowAt W g (ecells es ++ [.int .i64 0, .int .i64 0, .int .i64 (-70), .int .i64 0, .int .i64 0, .int .i64 (-71)]) ∧ Below w.heap.size w W ∧ w.heap.size ≤ W.heap.size

theorem EncG.below {w W W' : World} {g : Nat} {es : List (Int × Int × Int)} {ts xs : List Value} (h : EncG w W g es ts xs) (hb : Below W.heap.size W W') : EncG w W' g es ts xs :=
  ⟨h.1.below hb h.1.lt, h.2.1.below hb h.2.1.lt, h.2.2.1.below hb h.2.2.1.lt, below_chain h.2.2.2.1 hb h.2.2.2.2, Nat.le_trans h.2.2.2.2 hb.size⟩

theorem EncG.ents {w W : World} {g : Nat} {es : List (Int × Int × Int)} {ts xs : List Value} (h : EncG w W g es ts xs) : EntS W (some ⟨g, 0, none⟩) es := by
  have := h.2.2.1.take (ecells es).length
  rw [List.take_left'  rfl] at this
  exact .inr ⟨g, 0, rfl, entAt_row this⟩

theorem EncG.tails {w W : World} {g : Nat} {es : List (Int × Int × Int)} {ts xs : List Value} (h : EncG w W g es ts xs) : W.cell? ⟨g, es.length * 3 + 2, none⟩ = some (.int .i64 (-70)) ∧ W.cell? ⟨g, (es.length + 1) * 3 + 2, none⟩ = some (.int .i64 (-71)) := by
  have hl := ecells_length es
  constructor
  · rw [h.2.2.1.cell _ (by simp; omega), List.getElem?_append_right (by omega), hl, show es.length * 3 + 2 - es.length * 3 = 2 by omega]
    rfl
  · rw [h.2.2.1.cell _ (by simp; omega), List.getElem?_append_right (by omega), hl, show (es.length + 1) * 3 + 2 - es.length * 3 = 5 by omega]
    rfl

theorem enc_keep {w W W' : World} {g : Nat} {es : List (Int × Int × Int)} {t0 t1 t2 t3 t4 t5 x0 x1 x2 x3 x4 x5 : Value} (h : W.cell? ⟨w.heap.size + 1, 0, none⟩ = some t0 ∧ W.cell? ⟨w.heap.size + 1, 1, none⟩ = some t1 ∧ W.cell? ⟨w.heap.size + 1, 2, none⟩ = some t2 ∧ W.cell? ⟨w.heap.size + 1, 3, none⟩ = some t3 ∧ W.cell? ⟨w.heap.size + 1, 4, none⟩ = some t4 ∧ W.cell? ⟨w.heap.size + 1, 5, none⟩ = some t5 ∧ W.cell? ⟨w.heap.size, 0, none⟩ = some x0 ∧ W.cell? ⟨w.heap.size, 1, none⟩ = some x1 ∧ W.cell? ⟨w.heap.size, 2, none⟩ = some x2 ∧ W.cell? ⟨w.heap.size, 3, none⟩ = some x3 ∧ W.cell? ⟨w.heap.size, 4, none⟩ = some x4 ∧ W.cell? ⟨w.heap.size, 5, none⟩ = some x5 ∧ W.cell? ⟨g, es.length * 3 + 2, none⟩ = some (.int .i64 (-70)) ∧ W.cell? ⟨g, (es.length + 1) * 3 + 2, none⟩ = some (.int .i64 (-71)) ∧ EncG w W g es [t0, t1, t2, t3, t4, t5] [x0, x1, x2, x3, x4, x5]) (hb : Below W.heap.size W W') : W'.cell? ⟨w.heap.size + 1, 0, none⟩ = some t0 ∧ W'.cell? ⟨w.heap.size + 1, 1, none⟩ = some t1 ∧ W'.cell? ⟨w.heap.size + 1, 2, none⟩ = some t2 ∧ W'.cell? ⟨w.heap.size + 1, 3, none⟩ = some t3 ∧ W'.cell? ⟨w.heap.size + 1, 4, none⟩ = some t4 ∧ W'.cell? ⟨w.heap.size + 1, 5, none⟩ = some t5 ∧ W'.cell? ⟨w.heap.size, 0, none⟩ = some x0 ∧ W'.cell? ⟨w.heap.size, 1, none⟩ = some x1 ∧ W'.cell? ⟨w.heap.size, 2, none⟩ = some x2 ∧ W'.cell? ⟨w.heap.size, 3, none⟩ = some x3 ∧ W'.cell? ⟨w.heap.size, 4, none⟩ = some x4 ∧ W'.cell? ⟨w.heap.size, 5, none⟩ = some x5 ∧ W'.cell? ⟨g, es.length * 3 + 2, none⟩ = some (.int .i64 (-70)) ∧ W'.cell? ⟨g, (es.length + 1) * 3 + 2, none⟩ = some (.int .i64 (-71)) ∧ EncG w W' g es [t0, t1, t2, t3, t4, t5] [x0, x1, x2, x3, x4, x5] := by
  obtain ⟨_, _, _, _, _, _, _, _, _, _, _, _, _, _, hG⟩ := h
  have hG' := hG.below hb
  obtain ⟨c0, c1, c2, c3, c4, c5⟩ := six_cells hG'.1
  obtain ⟨d0, d1, d2, d3, d4, d5⟩ := six_cells hG'.2.1
  exact ⟨c0, c1, c2, c3, c4, c5, d0, d1, d2, d3, d4, d5, hG'.tails.1, hG'.tails.2, hG'⟩
theorem enc_end {w W : World} {g : Nat} {es : List (Int × Int × Int)} {t0 t1 t2 t3 t4 t5 x0 x1 x2 x3 x4 x5 : Value} (h : W.cell? ⟨w.heap.size + 1, 0, none⟩ = some t0 ∧ W.cell? ⟨w.heap.size + 1, 1, none⟩ = some t1 ∧ W.cell? ⟨w.heap.size + 1, 2, none⟩ = some t2 ∧ W.cell? ⟨w.heap.size + 1, 3, none⟩ = some t3 ∧ W.cell? ⟨w.heap.size + 1, 4, none⟩ = some t4 ∧ W.cell? ⟨w.heap.size + 1, 5, none⟩ = some t5 ∧ W.cell? ⟨w.heap.size, 0, none⟩ = some x0 ∧ W.cell? ⟨w.heap.size, 1, none⟩ = some x1 ∧ W.cell? ⟨w.heap.size, 2, none⟩ = some x2 ∧ W.cell? ⟨w.heap.size, 3, none⟩ = some x3 ∧ W.cell? ⟨w.heap.size, 4, none⟩ = some x4 ∧ W.cell? ⟨w.heap.size, 5, none⟩ = some x5 ∧ W.cell? ⟨g, es.length * 3 + 2, none⟩ = some (.int .i64 (-70)) ∧ W.cell? ⟨g, (es.length + 1) * 3 + 2, none⟩ = some (.int .i64 (-71)) ∧ EncG w W g es [t0, t1, t2, t3, t4, t5] [x0, x1, x2, x3, x4, x5]) : EncG w W g es [t0, t1, t2, t3, t4, t5] [x0, x1, x2, x3, x4, x5] :=
  h.2.2.2.2.2.2.2.2.2.2.2.2.2.2
theorem enc_ents {w W : World} {g : Nat} {es : List (Int × Int × Int)} {t0 t1 t2 t3 t4 t5 x0 x1 x2 x3 x4 x5 : Value} (h : W.cell? ⟨w.heap.size + 1, 0, none⟩ = some t0 ∧ W.cell? ⟨w.heap.size + 1, 1, none⟩ = some t1 ∧ W.cell? ⟨w.heap.size + 1, 2, none⟩ = some t2 ∧ W.cell? ⟨w.heap.size + 1, 3, none⟩ = some t3 ∧ W.cell? ⟨w.heap.size + 1, 4, none⟩ = some t4 ∧ W.cell? ⟨w.heap.size + 1, 5, none⟩ = some t5 ∧ W.cell? ⟨w.heap.size, 0, none⟩ = some x0 ∧ W.cell? ⟨w.heap.size, 1, none⟩ = some x1 ∧ W.cell? ⟨w.heap.size, 2, none⟩ = some x2 ∧ W.cell? ⟨w.heap.size, 3, none⟩ = some x3 ∧ W.cell? ⟨w.heap.size, 4, none⟩ = some x4 ∧ W.cell? ⟨w.heap.size, 5, none⟩ = some x5 ∧ W.cell? ⟨g, es.length * 3 + 2, none⟩ = some (.int .i64 (-70)) ∧ W.cell? ⟨g, (es.length + 1) * 3 + 2, none⟩ = some (.int .i64 (-71)) ∧ EncG w W g es [t0, t1, t2, t3, t4, t5] [x0, x1, x2, x3, x4, x5]) : EntS W (some ⟨g, 0, none⟩) es := (enc_end h).ents
theorem enc_bel {w W : World} {g : Nat} {es : List (Int × Int × Int)} {t0 t1 t2 t3 t4 t5 x0 x1 x2 x3 x4 x5 : Value} (h : W.cell? ⟨w.heap.size + 1, 0, none⟩ = some t0 ∧ W.cell? ⟨w.heap.size + 1, 1, none⟩ = some t1 ∧ W.cell? ⟨w.heap.size + 1, 2, none⟩ = some t2 ∧ W.cell? ⟨w.heap.size + 1, 3, none⟩ = some t3 ∧ W.cell? ⟨w.heap.size + 1, 4, none⟩ = some t4 ∧ W.cell? ⟨w.heap.size + 1, 5, none⟩ = some t5 ∧ W.cell? ⟨w.heap.size, 0, none⟩ = some x0 ∧ W.cell? ⟨w.heap.size, 1, none⟩ = some x1 ∧ W.cell? ⟨w.heap.size, 2, none⟩ = some x2 ∧ W.cell? ⟨w.heap.size, 3, none⟩ = some x3 ∧ W.cell? ⟨w.heap.size, 4, none⟩ = some x4 ∧ W.cell? ⟨w.heap.size, 5, none⟩ = some x5 ∧ W.cell? ⟨g, es.length * 3 + 2, none⟩ = some (.int .i64 (-70)) ∧ W.cell? ⟨g, (es.length + 1) * 3 + 2, none⟩ = some (.int .i64 (-71)) ∧ EncG w W g es [t0, t1, t2, t3, t4, t5] [x0, x1, x2, x3, x4, x5]) : Below w.heap.size w W := (enc_end h).2.2.2.1

end Go.Proofs.Ytdeemaafngehoaa
