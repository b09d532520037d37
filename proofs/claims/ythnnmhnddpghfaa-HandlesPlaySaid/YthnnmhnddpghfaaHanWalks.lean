/- Walks: a table of descriptors: is it none? a descriptor's slot. -/
import Derived.Test.YthnnmhnddpghfaaPlainHan
import Derived.Test.YthnnmhnddpghfaaRows
import Derived.Test.YthnnmhnddpghfaaAid
import Derived.Test.YthnnmhnddpghfaaMem4
import Derived.WalkKit
import Derived.WalkSpells
import Derived.WalkLawsBesides
import Derived.Handy
import Derived.Lib.Hide
import Derived.BigQuiet
import Derived.Deep.QuietTactic
set_option linter.unusedVariables false
set_option linter.unusedSimpArgs false
set_option maxRecDepth 100000
namespace Go.Proofs.Ythnnmhnddpghfaa
open Go.RowKit Go.Joins

/-- block K is a table -/
def TabAt (w : World) (K : Nat) (m : Bool) (l : List Sl) : Prop := l.length = 16 ∧ RowAt w K (tcells m l)
theorem TabAt.lt {w : World} {K : Nat} {m : Bool} {l : List Sl} (h : TabAt w K m l) : K < w.heap.size := h.2.lt
theorem TabAt.head {w : World} {K : Nat} {m : Bool} {l : List Sl} (h : TabAt w K m l) : w.cell? ⟨K, 0, none⟩ = some (.bool m) := h.2.cell 0 (by rw [tcells_len]; omega)
theorem TabAt.at {w : World} {K : Nat} {m : Bool} {l : List Sl} (h : TabAt w K m l) {k : Nat} {s : Sl} (hs : l[k]? = some s) : w.cell? ⟨K, 1 + k * 3, none⟩ = some (.bool s.o) ∧ w.cell? ⟨K, 1 + k * 3 + 1, none⟩ = some (.int .i64 s.n) ∧ w.cell? ⟨K, 1 + k * 3 + 2, none⟩ = some (.int .i64 s.a) := by
  have hk := (List.getElem?_eq_some_iff.1 hs).1
  obtain ⟨a, b, c⟩ := tcell_get (m := m) hs
  exact ⟨(h.2.cell _ (by rw [tcells_len]; omega)).trans a, (h.2.cell _ (by rw [tcells_len]; omega)).trans b, (h.2.cell _ (by rw [tcells_len]; omega)).trans c⟩
theorem TabAt.free {w : World} {K : Nat} {m : Bool} {l : List Sl} (h : TabAt w K m l) {k : Nat} (hk : k < 16) : w.frozen? ⟨K, 1 + k * 3, none⟩ = false ∧ w.frozen? ⟨K, 1 + k * 3 + 1, none⟩ = false ∧ w.frozen? ⟨K, 1 + k * 3 + 2, none⟩ = false := by
  have hl := h.1
  exact ⟨h.2.frozen _ (by rw [tcells_len]; omega), h.2.frozen _ (by rw [tcells_len]; omega), h.2.frozen _ (by rw [tcells_len]; omega)⟩
theorem TabAt.below {w w' : World} {K B : Nat} {m : Bool} {l : List Sl} (h : TabAt w K m l) (hb : Below B w w') (hB : w.heap.size ≤ B) : TabAt w' K m l := ⟨h.1, h.2.below hb (by have := h.lt; omega)⟩
theorem TabAt.put {w : World} {K : Nat} {m : Bool} {l : List Sl} (h : TabAt w K m l) (k : Nat) (s : Sl) (hk : k < 16) : TabAt (((w.setCell ⟨K, 1 + k * 3, none⟩ (.bool s.o)).setCell ⟨K, 1 + k * 3 + 1, none⟩ (.int .i64 s.n)).setCell ⟨K, 1 + k * 3 + 2, none⟩ (.int .i64 s.a)) K m (l.set k s) := by
  refine ⟨by rw [List.length_set]; exact h.1, ?_⟩
  rw [← tcell_set m l k s (by rw [h.1]; exact hk)]
  exact ((h.2.set _ _).set _ _).set _ _

theorem hnone_nil (w : World) : Calls Try.prog 27 #[.pointer none] w fun e w' => e = .returned (.bool true) ∧ w = w' := by
  go_enter Try.func27, Try.ntmps27
  go_wp2
  go_ret
  exact ⟨rfl, rfl⟩
theorem hnone_row (K : Nat) (m : Bool) (w : World) (hc : w.cell? ⟨K, 0, none⟩ = some (.bool m)) : Calls Try.prog 27 #[.pointer (some ⟨K, 0, none⟩)] w fun e w' => e = .returned (.bool !m) ∧ w = w' := by
  go_enter Try.func27, Try.ntmps27
  go_wp2
  go_ret
  exact ⟨rfl, rfl⟩

theorem hfind_none (K : Nat) (p : Option Addr) (fd : Int) (w : World) (HN : Hid (∀ W, W = w → Calls Try.prog 27 #[.pointer p] W fun e w' => e = .returned (.bool true) ∧ W = w')) :
    Calls Try.prog 26 #[.pointer p, .int .i64 fd] w fun e w' => e = .returned (.tuple #[.pointer none, .int .i64 1]) ∧ w = w' := by
  go_enter Try.func26, Try.ntmps26
  go_wp2_with fail
  refine (HN.out _ rfl).mono ?_
  rintro e w1 ⟨rfl, rfl⟩
  go_wp2_with fail
  go_ret2
  exact ⟨rfl, rfl⟩

theorem hfind_bad (K : Nat) (l : List Sl) (fd : Int) (w : World) (h : TabAt w K true l) (hs : slotOf l fd = none) :
    Calls Try.prog 26 #[.pointer (some ⟨K, 0, none⟩), .int .i64 fd] w fun e w' => e = .returned (.tuple #[.pointer none, .int .i64 220]) ∧ w = w' := by
  have HN := Lib.hid (hnone_row K true w h.head)
  rcases slotOf_none h.1 hs with c | c | ⟨c1, c2, s, c3, c4⟩
  · clear hs
    go_enter Try.func26, Try.ntmps26
    go_wp2_with fail
    refine HN.out.mono ?_
    rintro e w1 ⟨rfl, rfl⟩
    go_wp2_with fail
    go_ret2
    exact ⟨rfl, rfl⟩
  · clear hs
    have c' : ¬ fd < 0 := by omega
    go_enter Try.func26, Try.ntmps26
    go_wp2_with fail
    refine HN.out.mono ?_
    rintro e w1 ⟨rfl, rfl⟩
    go_wp2_with fail
    go_ret2
    exact ⟨rfl, rfl⟩
  · obtain ⟨k, rfl⟩ := Int.eq_ofNat_of_zero_le c1
    rw [Int.toNat_natCast] at c3
    obtain ⟨d0, d1, d2⟩ := h.at c3
    rw [c4] at d0
    have hc1 : ¬ (k : Int) < 0 := by omega
    have hc2 : ¬ (16 : Int) ≤ (k : Int) := by omega
    clear hs d1 d2 c3
    go_enter Try.func26, Try.ntmps26
    go_wp2_with fail
    refine HN.out.mono ?_
    rintro e w1 ⟨rfl, rfl⟩
    go_wp2_with fail
    go_ret2
    exact ⟨rfl, rfl⟩

theorem hfind_ok (K : Nat) (l : List Sl) (k : Nat) (s : Sl) (w : World) (h : TabAt w K true l) (hs : l[k]? = some s) (ho : s.o = true) :
    Calls Try.prog 26 #[.pointer (some ⟨K, 0, none⟩), .int .i64 k] w fun e w' => e = .returned (.tuple #[.pointer (some ⟨K, 1 + k * 3, none⟩), .int .i64 0]) ∧ w = w' := by
  have HN := Lib.hid (hnone_row K true w h.head)
  obtain ⟨d0, d1, d2⟩ := h.at hs
  rw [ho] at d0
  have hk := (List.getElem?_eq_some_iff.1 hs).1
  rw [h.1] at hk
  have hc1 : ¬ (k : Int) < 0 := by omega
  have hc2 : ¬ (16 : Int) ≤ (k : Int) := by omega
  have hc3 : (0 : Int) ≤ (k : Int) := by omega
  have hc4 : (k : Int) < 16 := by omega
  clear d1 d2 hs
  go_enter Try.func26, Try.ntmps26
  go_wp2_with fail
  refine HN.out.mono ?_
  rintro e w1 ⟨rfl, rfl⟩
  go_wp2_with fail
  go_ret2
  exact ⟨rfl, rfl⟩

end Go.Proofs.Ythnnmhnddpghfaa
