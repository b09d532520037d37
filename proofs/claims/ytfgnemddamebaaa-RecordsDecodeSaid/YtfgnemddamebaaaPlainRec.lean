/- Plain facts on records. -/
import Derived.Test.YtfgnemddamebaaaPlainPut
import Derived.Test.YtfgnemddamebaaaSl
set_option linter.unusedVariables false
set_option linter.unusedSimpArgs false
namespace Go.Proofs.Ytfgnemddamebaaa
open Go Go.RowKit

/-- a home behind the one ahead of it -/
def stepH (hs : List Int) (i : Nat) : Bool :=
  match hs[i]? with
  | none => true
  | some b => decide (0 ≤ b) && (decide (b < 4096) && (decide (i = 0) || match hs[i - 1]? with
    | none => true
    | some c => decide (c < b)))
def risOk (hs : List Int) : Bool := (List.range hs.length).all (stepH hs)
theorem risOk_no {hs : List Int} {k : Nat} (hk : k < hs.length) (h : stepH hs k = false) : risOk hs = false := by
  rw [risOk, List.all_eq_false]
  exact ⟨k, List.mem_range.2 hk, by simp [h]⟩
theorem risOk_yes {hs : List Int} (h : ∀ k < hs.length, stepH hs k = true) : risOk hs = true := by
  rw [risOk, List.all_eq_true]
  exact fun k hk => h k (List.mem_range.1 hk)
/-- are numbers homes? -/
def homesOk (hs : List Int) (most : Int) : Bool := risOk hs && (decide (1 ≤ hs.length) && decide ((hs.length : Int) ≤ most))

theorem risOk_small {hs : List Int} (h : risOk hs = true) : ∀ z ∈ hs, 0 ≤ z ∧ z ≤ 4095 := by
  intro z hz
  obtain ⟨i, hi, rfl⟩ := List.getElem_of_mem hz
  rw [risOk, List.all_eq_true] at h
  have := h i (List.mem_range.2 hi)
  simp only [stepH, List.getElem?_eq_getElem hi, Bool.and_eq_true, decide_eq_true_eq] at this
  omega

/-- a record's fields -/
structure Rc where
  k : Int
  q : Int
  at_ : Int
  hs : List Int
  ms : List Bool
  sum : Int

theorem Rc.ext {x y : Rc} (h1 : x.k = y.k) (h2 : x.q = y.q) (h3 : x.at_ = y.at_) (h4 : x.hs = y.hs) (h5 : x.ms = y.ms) (h6 : x.sum = y.sum) : x = y := by
  cases x; cases y; simp_all

def Rc.zero : Rc := ⟨0, 0, 0, [], [], 0⟩

/-- may a record be? -/
def Rc.ok (x : Rc) : Bool :=
  if x.k = 1 then decide (0 ≤ x.at_) && (decide (x.at_ ≤ 510) && (decide (x.sum = 0) && (decide (x.hs.length = 0) && decide (x.ms.length = 0))))
  else if x.k = 2 then decide (x.at_ = 0) && (decide (x.sum = 0) && (homesOk x.hs 24 && decide (x.ms.length = x.hs.length)))
  else if x.k = 3 then decide (x.at_ = 0) && (decide (x.sum = 0) && (homesOk x.hs 28 && decide (x.ms.length = 0)))
  else decide (x.k = 4) && (decide (x.at_ = 0) && (decide (x.hs.length = 0) && decide (x.ms.length = 0)))

theorem Rc.ok_iff (x : Rc) : x.ok = true ↔
    (x.k = 1 ∧ 0 ≤ x.at_ ∧ x.at_ ≤ 510 ∧ x.sum = 0 ∧ x.hs = [] ∧ x.ms = []) ∨
    (x.k = 2 ∧ x.at_ = 0 ∧ x.sum = 0 ∧ risOk x.hs = true ∧ 1 ≤ x.hs.length ∧ x.hs.length ≤ 24 ∧ x.ms.length = x.hs.length) ∨
    (x.k = 3 ∧ x.at_ = 0 ∧ x.sum = 0 ∧ risOk x.hs = true ∧ 1 ≤ x.hs.length ∧ x.hs.length ≤ 28 ∧ x.ms = []) ∨
    (x.k = 4 ∧ x.at_ = 0 ∧ x.hs = [] ∧ x.ms = []) := by
  have e24 : (x.hs.length : Int) ≤ 24 ↔ x.hs.length ≤ 24 := by omega
  have e28 : (x.hs.length : Int) ≤ 28 ↔ x.hs.length ≤ 28 := by omega
  unfold Rc.ok homesOk
  by_cases c1 : x.k = 1
  · rw [if_pos c1]
    simp only [Bool.and_eq_true, decide_eq_true_eq, List.length_eq_zero_iff]
    constructor
    · rintro ⟨a, b, c, d, e⟩; exact .inl ⟨c1, a, b, c, d, e⟩
    · rintro (⟨_, a, b, c, d, e⟩ | ⟨h, _⟩ | ⟨h, _⟩ | ⟨h, _⟩)
      · exact ⟨a, b, c, d, e⟩
      all_goals omega
  · rw [if_neg c1]
    by_cases c2 : x.k = 2
    · rw [if_pos c2]
      simp only [Bool.and_eq_true, decide_eq_true_eq, e24]
      constructor
      · rintro ⟨a, b, ⟨c, d, e⟩, f⟩; exact .inr (.inl ⟨c2, a, b, c, d, e, f⟩)
      · rintro (⟨h, _⟩ | ⟨_, a, b, c, d, e, f⟩ | ⟨h, _⟩ | ⟨h, _⟩)
        · omega
        · exact ⟨a, b, ⟨c, d, e⟩, f⟩
        all_goals omega
    · rw [if_neg c2]
      by_cases c3 : x.k = 3
      · rw [if_pos c3]
        simp only [Bool.and_eq_true, decide_eq_true_eq, e28, List.length_eq_zero_iff]
        constructor
        · rintro ⟨a, b, ⟨c, d, e⟩, f⟩; exact .inr (.inr (.inl ⟨c3, a, b, c, d, e, f⟩))
        · rintro (⟨h, _⟩ | ⟨h, _⟩ | ⟨_, a, b, c, d, e, f⟩ | ⟨h, _⟩)
          · omega
          · omega
          · exact ⟨a, b, ⟨c, d, e⟩, f⟩
          · omega
      · rw [if_neg c3]
        simp only [Bool.and_eq_true, decide_eq_true_eq, List.length_eq_zero_iff]
        constructor
        · rintro ⟨a, b, c, d⟩; exact .inr (.inr (.inr ⟨a, b, c, d⟩))
        · rintro (⟨h, _⟩ | ⟨h, _⟩ | ⟨h, _⟩ | ⟨a, b, c, d⟩)
          · omega
          · omega
          · omega
          · exact ⟨a, b, c, d⟩

end Go.Proofs.Ytfgnemddamebaaa
