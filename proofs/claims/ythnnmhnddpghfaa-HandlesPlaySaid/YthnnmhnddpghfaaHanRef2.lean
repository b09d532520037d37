/- Walks: the document's table of descriptors: Get, Has. -/
import Derived.Test.YthnnmhnddpghfaaHanRef
set_option linter.unusedVariables false
set_option linter.unusedSimpArgs false
set_option maxRecDepth 100000
namespace Go.Proofs.Ythnnmhnddpghfaa
open Go.RowKit Go.Joins

set_option maxHeartbeats 2000000 in
theorem rget_none (R : Nat) (l : List Rf) (fd : Int) (w : World) (h : RT w R l) (hn : l.length ≤ 1000) (hi : rAt l fd = -1) :
    Calls Try.prog 19 #[.pointer (some ⟨R, 0, none⟩), .int .i64 fd] w fun e w' => e = .returned (.tuple #[.int .i64 0, .int .i64 0, .int .i64 220]) ∧ Below w.heap.size w w' := by
  have hA := rat R l fd w h hn
  rw [hi] at hA
  have HA := Lib.hid hA
  clear h hi hA
  go_enter Try.func19, Try.ntmps19
  go_wp2_with fail
  refine HA.out.mono ?_
  rintro e w1 ⟨rfl, rfl⟩
  go_wp2_with fail
  go_ret3
  exact ⟨rfl, Below.refl _ _⟩

set_option maxHeartbeats 2000000 in
theorem rget_some (R : Nat) (l : List Rf) (fd : Int) (k : Nat) (x : Rf) (w : World) (h : RT w R l) (hn : l.length ≤ 1000) (hi : rAt l fd = k) (hx : l[k]? = some x) :
    Calls Try.prog 19 #[.pointer (some ⟨R, 0, none⟩), .int .i64 fd] w fun e w' => e = .returned (.tuple #[.int .i64 x.n, .int .i64 x.a, .int .i64 0]) ∧ Below w.heap.size w w' := by
  have hA := rat R l fd w h hn
  rw [hi] at hA
  have HA := Lib.hid hA
  obtain ⟨a, cap, hc, hV⟩ := h
  obtain ⟨P, o, rfl, hP, c0, c1, c2⟩ := rf_cells hV hx
  have hk := (List.getElem?_eq_some_iff.1 hx).1
  have h1 : (k : Int) < (l.length : Int) := by omega
  have h0 : (0 : Int) ≤ (k : Int) := by omega
  clear hi hA hV hx c0
  go_enter Try.func19, Try.ntmps19
  go_wp2_with fail
  refine HA.out.mono ?_
  rintro e w1 ⟨rfl, rfl⟩
  go_wp2_with fail
  go_quiet (fail)
  go_wp2_with fail
  go_ret3
  exact ⟨rfl, below_drewN (Below.refl _ _) nq⟩

end Go.Proofs.Ythnnmhnddpghfaa
