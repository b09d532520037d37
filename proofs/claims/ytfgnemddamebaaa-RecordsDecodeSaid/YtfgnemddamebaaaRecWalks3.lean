/- Walks: the writer of records' blocks. -/
import Derived.Test.YtfgnemddamebaaaRecWalks2
import Derived.Test.YtfgnemddamebaaaWordsWalks3
import Derived.Deep.RegionHeld3
set_option linter.unusedVariables false
set_option linter.unusedSimpArgs false
set_option maxRecDepth 100000
namespace Go.Proofs.Ytfgnemddamebaaa
open Go.RowKit Go.Joins

theorem grown_below_set2 {w w1 : World} {K : Nat} (hb : Below w.heap.size w w1) (o1 o2 : Nat) (v1 v2 : Value) : w.grownBy ((w1.setCell ⟨K, o1, none⟩ v1).setCell ⟨K, o2, none⟩ v2) (some K) := by
  refine ⟨hb.os, hb.tape, hb.output, by simp; exact hb.size, fun b hb' hne => ?_⟩
  have h : b ≠ K := fun e => hne (by rw [e])
  rw [Below.heap_setCell _ _ _ _ h, Below.heap_setCell _ _ _ _ h]
  exact hb.block b hb'
theorem grown_below_set1 {w w1 : World} {K : Nat} (hb : Below w.heap.size w w1) (o1 : Nat) (v1 : Value) : w.grownBy (w1.setCell ⟨K, o1, none⟩ v1) (some K) := by
  refine ⟨hb.os, hb.tape, hb.output, by simp; exact hb.size, fun b hb' hne => ?_⟩
  have h : b ≠ K := fun e => hne (by rw [e])
  rw [Below.heap_setCell _ _ _ _ h]
  exact hb.block b hb'

theorem two_keep {w W W' : World} {K : Nat} {v0 v1 : Value} (h : W.cell? ⟨K, 0, none⟩ = some v0 ∧ W.cell? ⟨K, 1, none⟩ = some v1 ∧ RowAt W K [v0, v1] ∧ Below w.heap.size w W ∧ w.heap.size ≤ W.heap.size) (hb : Below W.heap.size W W') : W'.cell? ⟨K, 0, none⟩ = some v0 ∧ W'.cell? ⟨K, 1, none⟩ = some v1 ∧ RowAt W' K [v0, v1] ∧ Below w.heap.size w W' ∧ w.heap.size ≤ W'.heap.size := by
  obtain ⟨_, _, hr, h1, h2⟩ := h
  have hr' := hr.below hb hr.lt
  exact ⟨hr'.cell 0 (by simp), hr'.cell 1 (by simp), hr', below_chain h1 hb h2, Nat.le_trans h2 hb.size⟩
theorem two_ends {w W : World} {K : Nat} {v0 v1 : Value} (h : W.cell? ⟨K, 0, none⟩ = some v0 ∧ W.cell? ⟨K, 1, none⟩ = some v1 ∧ RowAt W K [v0, v1] ∧ Below w.heap.size w W ∧ w.heap.size ≤ W.heap.size) : RowAt W K [v0, v1] ∧ Below w.heap.size w W := ⟨h.2.2.1, h.2.2.2.1⟩

set_option maxHeartbeats 2000000 in
theorem wput_ok (K : Nat) (s s' : ByteArray) (t size n : Int) (w : World) (hr : RowAt w K [.string s, .int .i64 t]) (ht : 0 ≤ t ∧ t ≤ 1000) (hs : 0 ≤ size ∧ size ≤ 8)
    (HC : Hid (∀ W, Calls Try.prog 40 #[.string s, .int .i64 t, .int .i64 size, .int .i64 n] W fun e w' => e = .returned (.tuple #[.string s', .bool true]) ∧ Below W.heap.size W w')) :
    Calls Try.prog 30 #[.pointer (some ⟨K, 0, none⟩), .int .i64 size, .int .i64 n] w fun e w' => e = .returned (.tuple #[]) ∧ RowAt w' K [.string s', .int .i64 (t + size)] ∧ w.grownBy w' (some K) := by
  have c0 : w.cell? ⟨K, 0, none⟩ = some (.string s) := hr.cell 0 (by simp)
  have c1 : w.cell? ⟨K, 1, none⟩ = some (.int .i64 t) := hr.cell 1 (by simp)
  have hl := hr.lt
  obtain ⟨t0, t1⟩ := ht
  obtain ⟨s0, s1⟩ := hs
  go_enter Try.func30, Try.ntmps30
  go_wp2_with fail
  go_region_held3 (fun w' => w'.cell? ⟨K, 0, none⟩ = some (.string s) ∧ w'.cell? ⟨K, 1, none⟩ = some (.int .i64 t) ∧ RowAt w' K [.string s, .int .i64 t] ∧ Below w.heap.size w w' ∧ w.heap.size ≤ w'.heap.size) (first | (exact two_keep ⟨c0, c1, hr, Below.refl _ _, Nat.le_refl _⟩ ((Below.refl _ _).drew)) | (exact two_keep (by assumption) (by assumption)))
    (first | (go_at_call 40; refine (HC.out _).mono ?_; rintro e w' ⟨rfl, hb'⟩))
  obtain ⟨r1, B1⟩ := two_ends (W := w') (by assumption)
  have d0 : w'.cell? ⟨K, 0, none⟩ = some (.string s) := r1.cell 0 (by simp)
  have d1 : w'.cell? ⟨K, 1, none⟩ = some (.int .i64 t) := r1.cell 1 (by simp)
  have f0 := r1.frozen 0 (by simp)
  have f1 := r1.frozen 1 (by simp)
  have hl1 := r1.lt
  go_wp2_with fail
  go_end0
  exact ⟨rfl, (r1.set 0 (.string s')).set 1 (.int .i64 (t + size)), grown_below_set2 B1 _ _ _ _⟩

end Go.Proofs.Ytfgnemddamebaaa
