/- Plain facts on a table of descriptors. No function in sight. -/
import Derived.Test.YthnnmhnddpghfaaSl
set_option linter.unusedVariables false
set_option linter.unusedSimpArgs false
namespace Go.Proofs.Ythnnmhnddpghfaa
open Go Go.RowKit

/-- a descriptor's slot: is it open? its node, its offset -/
structure Sl where
  o : Bool
  n : Int
  a : Int

def Sl.none : Sl := ⟨false, 0, 0⟩
theorem Sl.ext {x y : Sl} (h1 : x.o = y.o) (h2 : x.n = y.n) (h3 : x.a = y.a) : x = y := by
  cases x; cases y; simp_all

def scells (s : Sl) : List Value := [.bool s.o, .int .i64 s.n, .int .i64 s.a]
def tcells (m : Bool) (l : List Sl) : List Value := .bool m :: l.flatMap scells

theorem scells_len (l : List Sl) : (l.flatMap scells).length = 3 * l.length := by
  induction l with
  | nil => rfl
  | cons s r ih => rw [List.flatMap_cons, List.length_append, ih]; simp [scells]; omega
theorem tcells_len (m : Bool) (l : List Sl) : (tcells m l).length = 1 + 3 * l.length := by
  rw [tcells, List.length_cons, scells_len]; omega

theorem flat_get (l : List Sl) (k : Nat) (s : Sl) (h : l[k]? = some s) : (l.flatMap scells)[k * 3]? = some (.bool s.o) ∧ (l.flatMap scells)[k * 3 + 1]? = some (.int .i64 s.n) ∧ (l.flatMap scells)[k * 3 + 2]? = some (.int .i64 s.a) := by
  induction l generalizing k with
  | nil => simp at h
  | cons x r ih =>
    rw [List.flatMap_cons]
    cases k with
    | zero =>
      simp at h; subst h
      exact ⟨rfl, rfl, rfl⟩
    | succ k =>
      have hh := ih k (by simpa using h)
      have hl : (scells x).length = 3 := rfl
      have e : ∀ d, (k + 1) * 3 + d - 3 = k * 3 + d := by intro d; omega
      rw [List.getElem?_append_right (by rw [hl]; omega), List.getElem?_append_right (by rw [hl]; omega), List.getElem?_append_right (by rw [hl]; omega), hl, e, e]
      exact ⟨by have := e 0; simp at this; rw [this]; exact hh.1, hh.2.1, hh.2.2⟩

theorem tcell_get {m : Bool} {l : List Sl} {k : Nat} {s : Sl} (h : l[k]? = some s) : (tcells m l)[1 + k * 3]? = some (.bool s.o) ∧ (tcells m l)[1 + k * 3 + 1]? = some (.int .i64 s.n) ∧ (tcells m l)[1 + k * 3 + 2]? = some (.int .i64 s.a) := by
  obtain ⟨a, b, c⟩ := flat_get l k s h
  have e1 : 1 + k * 3 = k * 3 + 1 := by omega
  have e2 : 1 + k * 3 + 1 = (k * 3 + 1) + 1 := by omega
  have e3 : 1 + k * 3 + 2 = (k * 3 + 2) + 1 := by omega
  rw [e2, e3, e1, tcells, List.getElem?_cons_succ, List.getElem?_cons_succ, List.getElem?_cons_succ]
  exact ⟨a, b, c⟩

theorem flat_set (l : List Sl) (k : Nat) (s : Sl) (hk : k < l.length) : (((l.flatMap scells).set (k * 3) (.bool s.o)).set (k * 3 + 1) (.int .i64 s.n)).set (k * 3 + 2) (.int .i64 s.a) = (l.set k s).flatMap scells := by
  induction l generalizing k with
  | nil => simp at hk
  | cons x r ih =>
    cases k with
    | zero =>
      rw [List.set_cons_zero, List.flatMap_cons, List.flatMap_cons]
      rfl
    | succ k =>
      have hh := ih k (by simpa using hk)
      rw [List.set_cons_succ, List.flatMap_cons, List.flatMap_cons, ← hh]
      have hl : (scells x).length = 3 := rfl
      rw [List.set_append_right _ _ (by rw [hl]; omega), List.set_append_right _ _ (by rw [hl]; omega), List.set_append_right _ _ (by rw [hl]; omega), hl]
      have e0 : (k + 1) * 3 - 3 = k * 3 := by omega
      have e1 : (k + 1) * 3 + 1 - 3 = k * 3 + 1 := by omega
      have e2 : (k + 1) * 3 + 2 - 3 = k * 3 + 2 := by omega
      rw [e0, e1, e2]

theorem tcell_set (m : Bool) (l : List Sl) (k : Nat) (s : Sl) (hk : k < l.length) : (((tcells m l).set (1 + k * 3) (.bool s.o)).set (1 + k * 3 + 1) (.int .i64 s.n)).set (1 + k * 3 + 2) (.int .i64 s.a) = tcells m (l.set k s) := by
  have e1 : 1 + k * 3 = k * 3 + 1 := by omega
  have e2 : 1 + k * 3 + 1 = (k * 3 + 1) + 1 := by omega
  have e3 : 1 + k * 3 + 2 = (k * 3 + 2) + 1 := by omega
  rw [e2, e3, e1, tcells, tcells, List.set_cons_succ, List.set_cons_succ, List.set_cons_succ, flat_set l k s hk]

/-- the slot that a descriptor may open -/
def firstFree (l : List Sl) : Option Nat := l.findIdx? fun s => !s.o
/-- the open slot of a descriptor -/
def slotOf (l : List Sl) (fd : Int) : Option Sl := if 0 ≤ fd ∧ fd < 16 then (l[fd.toNat]?).filter (·.o) else none
theorem slotOf_some {l : List Sl} {fd : Int} {s : Sl} (h : slotOf l fd = some s) : 0 ≤ fd ∧ fd < 16 ∧ l[fd.toNat]? = some s ∧ s.o = true := by
  unfold slotOf at h
  split at h
  · rename_i hc
    rw [Option.filter_eq_some_iff] at h
    exact ⟨hc.1, hc.2, h.1, h.2⟩
  · cases h
theorem slotOf_none {l : List Sl} (hl : l.length = 16) {fd : Int} (h : slotOf l fd = none) : fd < 0 ∨ 16 ≤ fd ∨ (0 ≤ fd ∧ fd < 16 ∧ ∃ s, l[fd.toNat]? = some s ∧ s.o = false) := by
  by_cases c : 0 ≤ fd ∧ fd < 16
  · right; right
    refine ⟨c.1, c.2, l[fd.toNat]'(by omega), List.getElem?_eq_getElem _, ?_⟩
    rw [slotOf, if_pos c, List.getElem?_eq_getElem (by omega)] at h
    cases hh : (l[fd.toNat]'(by omega)).o with
    | false => rfl
    | true => simp [Option.filter, hh] at h
  · omega

theorem free_some {l : List Sl} {k : Nat} (h : firstFree l = some k) : k < l.length ∧ (∃ s, l[k]? = some s ∧ s.o = false) ∧ ∀ j < k, ∃ s, l[j]? = some s ∧ s.o = true := by
  rw [firstFree, List.findIdx?_eq_some_iff_getElem] at h
  obtain ⟨hk, h1, h2⟩ := h
  refine ⟨hk, ⟨l[k], List.getElem?_eq_getElem hk, by simpa using h1⟩, fun j hj => ⟨l[j]'(by omega), List.getElem?_eq_getElem (by omega), ?_⟩⟩
  have := h2 j hj
  simpa using this
theorem free_none {l : List Sl} (h : firstFree l = none) : ∀ j < l.length, ∃ s, l[j]? = some s ∧ s.o = true := by
  rw [firstFree, List.findIdx?_eq_none_iff] at h
  intro j hj
  exact ⟨l[j], List.getElem?_eq_getElem hj, by simpa using h _ (List.getElem_mem hj)⟩

end Go.Proofs.Ythnnmhnddpghfaa
