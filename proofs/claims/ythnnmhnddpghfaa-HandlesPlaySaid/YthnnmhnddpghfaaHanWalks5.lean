/- Walks: a table of descriptors: a clone; an act. -/
import Derived.Test.YthnnmhnddpghfaaHanWalks4
set_option linter.unusedVariables false
set_option linter.unusedSimpArgs false
set_option maxRecDepth 100000
namespace Go.Proofs.Ythnnmhnddpghfaa
open Go.RowKit Go.Joins

/-- what an act leaves -/
def tDoes (l : List Sl) (k fd n : Int) : List Sl := if k % 3 = 0 then (tOpen l n).1 else if k % 3 = 1 then (tClose l fd).1 else (tSeek l fd n).1

theorem grown_alloc {w w' : World} {K : Nat} (o : Obj) (h : (w.alloc o).grownBy w' (some K)) : w.grownBy w' (some K) :=
  ⟨h.os, h.tape, h.output, by have := h.size; simp at this; omega, fun k hk hne => by rw [h.block k (by simp; omega) hne]; exact Below.heap_alloc _ _ _ hk⟩

set_option maxHeartbeats 1000000 in
theorem hdoes (K : Nat) (l : List Sl) (k fd n : Int) (w : World) (h : TabAt w K true l) (hk0 : 0 ≤ k) (hk1 : k ≤ 255) :
    Calls Try.prog 10 #[.pointer (some ⟨K, 0, none⟩), .agg #[.int .u8 k, .int .i64 fd, .int .i64 n]] w fun e w' => (∃ z : Int, e = .returned (.int .i64 z)) ∧ TabAt w' K true (tDoes l k fd n) ∧ w.grownBy w' (some K) := by
  have X : Below w.heap.size w (w.alloc (.cells #[.int .u8 k, .int .i64 fd, .int .i64 n] 29)) := (Below.refl _ _).alloc (Nat.le_refl _) _
  have h2 := h.below X (Nat.le_refl _)
  have h3 : k % 3 = 0 ∨ k % 3 = 1 ∨ k % 3 = 2 := by omega
  rcases h3 with c | c | c
  · have HO := Lib.hid (hopen K l n _ h2)
    have HT := Lib.hid (show tDoes l k fd n = (tOpen l n).1 from if_pos c)
    clear h h2
    go_enter Try.func10, Try.ntmps10
    go_wp2_with fail
    refine HO.out.mono ?_
    rintro e w1 ⟨rfl, hT, hg⟩
    have HTT := Lib.hid hT
    have HG := Lib.hid hg
    clear hT hg
    go_wp2_with fail
    go_ret
    rw [HT.out]
    exact ⟨⟨_, rfl⟩, HTT.out, grown_alloc _ HG.out⟩
  · have c0 : ¬ k % 3 = 0 := by omega
    have HO := Lib.hid (hclose K l fd _ h2)
    have HT := Lib.hid (show tDoes l k fd n = (tClose l fd).1 from by rw [tDoes, if_neg c0, if_pos c])
    clear h h2
    go_enter Try.func10, Try.ntmps10
    go_wp2_with fail
    refine HO.out.mono ?_
    rintro e w1 ⟨rfl, hT, hg⟩
    have HTT := Lib.hid hT
    have HG := Lib.hid hg
    clear hT hg
    go_wp2_with fail
    go_ret
    rw [HT.out]
    exact ⟨⟨_, rfl⟩, HTT.out, grown_alloc _ HG.out⟩
  · have c0 : ¬ k % 3 = 0 := by omega
    have c1 : ¬ k % 3 = 1 := by omega
    have HO := Lib.hid (hseek K l fd n _ h2)
    have HT := Lib.hid (show tDoes l k fd n = (tSeek l fd n).1 from by rw [tDoes, if_neg c0, if_neg c1])
    clear h h2
    go_enter Try.func10, Try.ntmps10
    go_wp2_with fail
    refine HO.out.mono ?_
    rintro e w1 ⟨rfl, hT, hg⟩
    have HTT := Lib.hid hT
    have HG := Lib.hid hg
    clear hT hg
    go_wp2_with fail
    go_ret
    rw [HT.out]
    exact ⟨⟨_, rfl⟩, HTT.out, grown_alloc _ HG.out⟩

end Go.Proofs.Ythnnmhnddpghfaa
