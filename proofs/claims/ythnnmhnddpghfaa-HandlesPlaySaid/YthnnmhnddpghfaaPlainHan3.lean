/- Plain facts on a table of descriptors that is filled and emptied. -/
import Derived.Test.YthnnmhnddpghfaaHanTwo
set_option linter.unusedVariables false
set_option linter.unusedSimpArgs false
set_option maxRecDepth 100000
namespace Go.Proofs.Ythnnmhnddpghfaa
open Go.RowKit Go.Joins

def isF (v : Option Value) : Bool := match v with
  | some (.bool b) => !b
  | _ => false
/-- how many slots are free, as the world has them -/
def freeW (w : World) (K : Nat) : Nat := ((List.range 16).map fun j => isF (w.cell? ⟨K, 1 + j * 3, none⟩)).count true
theorem freeW_eq {w : World} {K : Nat} {m : Bool} {T : List Sl} (h : TabAt w K m T) : freeW w K = (T.map freeP).count true := by
  rw [freeW]
  congr 1
  apply List.ext_getElem?
  intro j
  rw [List.getElem?_map, List.getElem?_map]
  by_cases hj : j < 16
  · have hs : T[j]? = some (T[j]'(by rw [h.1]; exact hj)) := List.getElem?_eq_getElem _
    rw [List.getElem?_range hj, hs, Option.map_some, Option.map_some, (h.at hs).1]
    rfl
  · rw [List.getElem?_eq_none (by simp; omega), List.getElem?_eq_none (by rw [h.1]; omega)]
    rfl

theorem free_less {T : List Sl} {k : Nat} {n : Int} (h : firstFree T = some k) : ((T.set k ⟨true, n, 0⟩).map freeP).count true < (T.map freeP).count true := by
  obtain ⟨hk, ⟨s, hs, ho⟩, _⟩ := free_some h
  have h1 : (T.map freeP)[k]? = some true := by rw [List.getElem?_map, hs]; simp [freeP, ho]
  have hk' : k < (T.map freeP).length := by simpa using hk
  have hpos : 0 < (T.map freeP).count true := List.count_pos_iff.2 (List.mem_of_getElem? h1)
  rw [List.map_set, List.count_set hk']
  have h2 : (T.map freeP)[k] = true := (List.getElem?_eq_some_iff.1 h1).2
  rw [h2]
  simp [freeP]
  omega

/-- is a slot open? the list of all -/
def openL (T : List Sl) : List Bool := T.map (·.o)
theorem openL_set (T : List Sl) (k : Nat) (n : Int) : (openL T).set k true = openL (T.set k ⟨true, n, 0⟩) := by simp [openL, List.map_set]
theorem openL_get {T : List Sl} {k : Nat} {s : Sl} (h : T[k]? = some s) : ((openL T).map Value.bool)[k]? = some (.bool s.o) := by simp [openL, h]
theorem openL_all {T : List Sl} (hl : T.length = 16) (h : firstFree T = none) : openL T = List.replicate 16 true := by
  rw [List.eq_replicate_iff]
  refine ⟨by simp [openL, hl], fun b hb => ?_⟩
  simp only [openL, List.mem_map] at hb
  obtain ⟨s, hs, rfl⟩ := hb
  obtain ⟨j, hj, e⟩ := List.getElem_of_mem hs
  obtain ⟨s', h1, h2⟩ := free_none h j hj
  rw [List.getElem?_eq_getElem hj] at h1
  injection h1 with h1
  rw [← e, h1]; exact h2
theorem full_yes {T : List Sl} (hl : T.length = 16) (h : firstFree T = none) : tFull T = true := by
  rw [tFull, List.all_eq_true]
  intro s hs
  obtain ⟨j, hj, e⟩ := List.getElem_of_mem hs
  obtain ⟨s', h1, h2⟩ := free_none h j hj
  rw [List.getElem?_eq_getElem hj] at h1
  injection h1 with h1
  rw [← e, h1]; exact h2

/-- the first k closed, the rest open -/
def Closing (T : List Sl) (k : Nat) : Prop := T.length = 16 ∧ (∀ j < k, j < 16 → T[j]? = some Sl.none) ∧ ∀ j, k ≤ j → j < 16 → ∃ s, T[j]? = some s ∧ s.o = true
theorem closing_start {T : List Sl} (hl : T.length = 16) (h : firstFree T = none) : Closing T 0 := ⟨hl, fun j hj => by omega, fun j _ hj => free_none h j (by omega)⟩
theorem closing_step {T : List Sl} {k : Nat} (h : Closing T k) (hk : k < 16) : (∃ n b, tClose T k = (T.set k Sl.none, n, b, 0)) ∧ Closing (T.set k Sl.none) (k + 1) := by
  obtain ⟨hl, h1, h2⟩ := h
  obtain ⟨s, hs, ho⟩ := h2 k (Nat.le_refl _) hk
  constructor
  · have e : slotOf T k = some s := by
      rw [slotOf, if_pos ⟨by omega, by omega⟩, Int.toNat_natCast, hs]
      simp [Option.filter, ho]
    rw [tClose, e]
    exact ⟨_, _, rfl⟩
  · refine ⟨by simp [hl], fun j hj hj' => ?_, fun j hj hj' => ?_⟩
    · by_cases e : j = k
      · subst e; rw [List.getElem?_set_self (by omega)]
      · rw [List.getElem?_set_ne (by omega)]; exact h1 j (by omega) hj'
    · rw [List.getElem?_set_ne (by omega)]; exact h2 j (by omega) hj'
theorem closing_end {T : List Sl} (h : Closing T 16) : T = zeroT := by
  obtain ⟨hl, h1, _⟩ := h
  apply List.ext_getElem?
  intro j
  by_cases hj : j < 16
  · rw [h1 j hj hj, zeroT, List.getElem?_replicate_of_lt hj]
  · rw [List.getElem?_eq_none (by omega), List.getElem?_eq_none (by simp [zeroT]; omega)]
theorem zero_nodes : nodesOf zeroT = [] := by
  have e : openN zeroT 16 = [] := by kernel_rfl
  have s : ([] : List Int).mergeSort (fun x y => decide (x ≤ y)) = [] := List.mergeSort_of_pairwise (by simp)
  rw [nodesOf, e, s]
  rfl
theorem zero_full : tFull zeroT = false := by kernel_rfl
theorem zero_has (n : Int) : tHas zeroT n = false := by simp [tHas, zeroT, hasP, Sl.none, List.any_replicate]

/-- what was seen of the first k -/
def Seen (T : List Sl) (bs : List Bool) (k : Nat) : Prop := bs.length = 16 ∧ ∀ j < k, bs[j]? = (openL T)[j]?
theorem tGet_ok {T : List Sl} {k : Nat} {s : Sl} (hk : k < 16) (h : T[k]? = some s) : ((tGet T k).2.2 == 0) = s.o := by
  have e : slotOf T k = (some s).filter (·.o) := by rw [slotOf, if_pos ⟨by omega, by omega⟩, Int.toNat_natCast, h]
  rw [tGet, e]
  cases ho : s.o <;> simp [Option.filter, ho]
theorem seen_step {T : List Sl} {bs : List Bool} {k : Nat} {s : Sl} (h : Seen T bs k) (hs : T[k]? = some s) (hk : k < 16) : Seen T (bs.set k s.o) (k + 1) := by
  obtain ⟨hl, h1⟩ := h
  refine ⟨by simp [hl], fun j hj => ?_⟩
  by_cases e : j = k
  · subst e; rw [List.getElem?_set_self (by omega)]; simp [openL, hs]
  · rw [List.getElem?_set_ne (by omega)]; exact h1 j (by omega)
theorem seen_end {T : List Sl} {bs : List Bool} (hT : T.length = 16) (h : Seen T bs 16) : bs = openL T := by
  apply List.ext_getElem?
  intro j
  by_cases hj : j < 16
  · exact h.2 j hj
  · rw [List.getElem?_eq_none (by have := h.1; omega), List.getElem?_eq_none (by simp [openL, hT]; omega)]

end Go.Proofs.Ythnnmhnddpghfaa
