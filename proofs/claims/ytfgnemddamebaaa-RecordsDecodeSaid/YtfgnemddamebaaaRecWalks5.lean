/- Walks: the reader of records' blocks. -/
import Derived.Test.YtfgnemddamebaaaRecWalks3
import Derived.BigQuiet
import Derived.Deep.QuietTactic
set_option linter.unusedVariables false
set_option linter.unusedSimpArgs false
set_option maxRecDepth 100000
namespace Go.Proofs.Ytfgnemddamebaaa
open Go.RowKit Go.Joins

set_option maxHeartbeats 2000000 in
theorem rget_ok (K : Nat) (s : ByteArray) (t size : Int) (bad : Bool) (w : World) (hr : RowAt w K [.string s, .int .i64 t, .bool bad]) (ht : 0 ≤ t ∧ t ≤ 100000) (hs : 0 ≤ size ∧ size ≤ 8) (hz : s.size ≤ maxLen) :
    Calls Try.prog 36 #[.pointer (some ⟨K, 0, none⟩), .int .i64 size] w fun e w' => e = .returned (.int .i64 (getIV s t size)) ∧ RowAt w' K [.string s, .int .i64 (t + size), .bool (bad || !getIOk s t size)] ∧ w.grownBy w' (some K) := by
  have HC := Lib.hid (fun W => (getint_any s t size W hz).mono fun e w' h => ⟨h.1, h.2.symm⟩ : ∀ W, Calls Try.prog 21 #[.string s, .int .i64 t, .int .i64 size] W fun e w' => e = .returned (.tuple #[.int .i64 (getIV s t size), .bool (getIOk s t size)]) ∧ w' = W)
  have c0 : w.cell? ⟨K, 0, none⟩ = some (.string s) := hr.cell 0 (by simp)
  have c1 : w.cell? ⟨K, 1, none⟩ = some (.int .i64 t) := hr.cell 1 (by simp)
  have hl := hr.lt
  obtain ⟨t0, t1⟩ := ht
  obtain ⟨s0, s1⟩ := hs
  generalize getIV s t size = v at HC ⊢
  generalize getIOk s t size = ok at HC ⊢
  cases bad <;> cases ok
  all_goals
    go_enter Try.func36, Try.ntmps36
    go_wp2_with fail
    go_quiet ((go_at_call 21; exact Calls.quiet_of_same (HC.out _)))
    have B1 : Below w.heap.size w (w.drewN nq) := below_drewN (Below.refl _ _) nq
    have r1 := hr.below B1 hr.lt
    have d0 : (w.drewN nq).cell? ⟨K, 0, none⟩ = some (.string s) := r1.cell 0 (by simp)
    have d1 : (w.drewN nq).cell? ⟨K, 1, none⟩ = some (.int .i64 t) := r1.cell 1 (by simp)
    have f1 := r1.frozen 1 (by simp)
    have hl1 := r1.lt
    clear c0 c1 hr
    generalize w.drewN nq = w1 at *
    have r2 := r1.set 1 (.int .i64 (t + size))
    have d2 : (w1.setCell ⟨K, 1, none⟩ (.int .i64 (t + size))).cell? ⟨K, 2, none⟩ = some (.bool _) := r2.cell 2 (by simp)
    have f2 := r2.frozen 2 (by simp)
    go_wp2_with fail
    go_ret
    exact ⟨rfl, (r1.set 1 (.int .i64 (t + size))).set 2 _, grown_below_set2 B1 _ _ _ _⟩

end Go.Proofs.Ytfgnemddamebaaa
