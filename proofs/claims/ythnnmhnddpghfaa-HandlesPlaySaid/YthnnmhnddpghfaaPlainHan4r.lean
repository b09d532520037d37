/- Plain facts: lists that rise, each once. No function in sight. -/
import Derived.Test.YthnnmhnddpghfaaMem
import Derived.Lib.SlicesCompact
set_option linter.unusedVariables false
set_option linter.unusedSimpArgs false
namespace Go.Proofs.Ythnnmhnddpghfaa
open Go Go.RowKit

/-! ### lists that rise -/

theorem strict_ext : ∀ (a b : List Int), a.Pairwise (· < ·) → b.Pairwise (· < ·) → (∀ x, x ∈ a ↔ x ∈ b) → a = b
  | [], [], _, _, _ => rfl
  | [], y :: b, _, _, h => absurd ((h y).2 (by simp)) (by simp)
  | x :: a, [], _, _, h => absurd ((h x).1 (by simp)) (by simp)
  | x :: a, y :: b, ha, hb, h => by
    rw [List.pairwise_cons] at ha hb
    have hxy : x = y := by
      have h1 := (h x).1 (by simp)
      have h2 := (h y).2 (by simp)
      rw [List.mem_cons] at h1 h2
      rcases h1 with e | h1
      · exact e
      · rcases h2 with e | h2
        · exact e.symm
        · have := hb.1 x h1; have := ha.1 y h2; omega
    subst hxy
    rw [strict_ext a b ha.2 hb.2 fun z => ?_]
    constructor
    · intro hz
      have h1 := (h z).1 (List.mem_cons_of_mem _ hz)
      rcases List.mem_cons.1 h1 with e | h1
      · have := ha.1 z hz; omega
      · exact h1
    · intro hz
      have h1 := (h z).2 (List.mem_cons_of_mem _ hz)
      rcases List.mem_cons.1 h1 with e | h1
      · have := hb.1 z hz; omega
      · exact h1

theorem keeps_at (zs : List Int) (j : Nat) : Lib.keeps zs.toArray j = true ↔ (j = 0 ∨ zs[j]! ≠ zs[j-1]!) := by
  unfold Lib.keeps
  rw [decide_eq_true_iff]
  simp

theorem compact_mem (zs : List Int) (x : Int) : x ∈ Lib.compact zs ↔ x ∈ zs := by
  unfold Lib.compact Lib.compactUpTo
  simp only [List.mem_map, List.mem_filter, List.mem_range]
  constructor
  · rintro ⟨j, ⟨hj, _⟩, rfl⟩
    have : zs.toArray[j]! = zs[j] := by simp [hj]
    rw [this]
    exact List.getElem_mem hj
  · intro hx
    obtain ⟨j, hj, e⟩ := List.getElem_of_mem hx
    clear hx
    induction j with
    | zero => exact ⟨0, ⟨hj, (keeps_at zs 0).2 (.inl rfl)⟩, by simp [hj, e]⟩
    | succ j ih =>
      by_cases hk : Lib.keeps zs.toArray (j + 1) = true
      · exact ⟨j + 1, ⟨hj, hk⟩, by simp [hj, e]⟩
      · refine ih (by omega) ?_
        rw [keeps_at] at hk
        simp [hj, show j < zs.length by omega] at hk
        rw [← hk]; exact e

theorem compact_strict (zs : List Int) (h : zs.Pairwise (· ≤ ·)) : (Lib.compact zs).Pairwise (· < ·) := by
  unfold Lib.compact Lib.compactUpTo
  rw [List.pairwise_map]
  refine (List.pairwise_lt_range.filter _).imp_of_mem ?_
  intro i j hi hj hij
  rw [List.mem_filter, List.mem_range] at hi hj
  have hk := hj.2
  rw [keeps_at] at hk
  have hk : zs[j]! ≠ zs[j-1]! := by
    rcases hk with hk | hk
    · omega
    · exact hk
  rw [List.pairwise_iff_getElem] at h
  have h1 : zs[i]'hi.1 ≤ zs[j - 1]'(by omega) := by
    by_cases e : i = j - 1
    · subst e; exact Int.le_refl _
    · exact h i (j - 1) hi.1 (by omega) (by omega)
  have h2 := h (j - 1) j (by omega) hj.1 (by omega)
  simp [hj.1, show j - 1 < zs.length by omega] at hk
  simp [hi.1, hj.1]
  omega

theorem insert_strict {out : List Int} {n : Int} {k : Nat} (h : out.Pairwise (· < ·)) (hk : k ≤ out.length) (h1 : ∀ j < k, ∃ y, out[j]? = some y ∧ y < n) (h2 : ∀ y, out[k]? = some y → n < y) : (out.take k ++ (n :: out.drop k)).Pairwise (· < ·) := by
  have hd : ∀ y ∈ out.drop k, n < y := by
    intro y hy
    obtain ⟨i, hi, e⟩ := List.getElem_of_mem hy
    rw [List.length_drop] at hi
    rw [List.getElem_drop] at e
    have h3 := h2 (out[k]'(by omega)) (List.getElem?_eq_getElem _)
    by_cases c : i = 0
    · subst c; rw [← e]; exact h3
    · rw [List.pairwise_iff_getElem] at h
      have := h k (k + i) (by omega) (by omega) (by omega)
      omega
  have ht : ∀ y ∈ out.take k, y < n := by
    intro y hy
    obtain ⟨i, hi, e⟩ := List.getElem_of_mem hy
    rw [List.length_take] at hi
    rw [List.getElem_take] at e
    obtain ⟨z, h3, h4⟩ := h1 i (by omega)
    rw [List.getElem?_eq_getElem (by omega), e] at h3
    injection h3 with h3
    omega
  rw [List.pairwise_append]
  refine ⟨h.sublist (List.take_sublist _ _), ?_, ?_⟩
  · rw [List.pairwise_cons]
    exact ⟨hd, h.sublist (List.drop_sublist _ _)⟩
  · intro a ha b hb
    have := ht a ha
    rcases List.mem_cons.1 hb with rfl | hb
    · exact this
    · have := hd b hb; omega
theorem insert_mem {out : List Int} {n x : Int} {k : Nat} : x ∈ out.take k ++ (n :: out.drop k) ↔ x ∈ out ∨ x = n := by
  conv => rhs; rw [← List.take_append_drop k out]
  simp only [List.mem_append, List.mem_cons]
  constructor
  · rintro (h | h | h)
    · exact .inl (.inl h)
    · exact .inr h
    · exact .inl (.inr h)
  · rintro ((h | h) | h)
    · exact .inl h
    · exact .inr (.inr h)
    · exact .inr (.inl h)

end Go.Proofs.Ythnnmhnddpghfaa
