/- Plain facts on names and paths. No function in sight. -/
import Derived.Test.YtlhkfpenfbakkaaDoorMem
import Derived.Lib.SplitLaws
import Derived.Lib.Split
import Derived.Lib.Join
set_option linter.unusedVariables false
set_option linter.unusedSimpArgs false
namespace Go.Proofs.YtlhkfpenfbakkaaDoor
open Go Go.RowKit

/-- may an entry have it? -/
def nmOk (l : List UInt8) : Bool := decide (1 ≤ l.length) && (decide (l.length ≤ 32) && l.all fun b => b != 0 && b != 47)
theorem nmOk_iff {l : List UInt8} : nmOk l = true ↔ 1 ≤ l.length ∧ l.length ≤ 32 ∧ ∀ b ∈ l, b ≠ 0 ∧ b ≠ 47 := by
  simp [nmOk]
theorem nmOk_slash {l : List UInt8} (h : nmOk l = true) : (47 : UInt8) ∉ l := fun hm => ((nmOk_iff.1 h).2.2 47 hm).2 rfl

/-- a text cut at its slashes -/
def pieces : List UInt8 → List (List UInt8)
  | [] => [[]]
  | c :: l => if c = 47 then [] :: pieces l else match pieces l with
    | [] => [[c]]
    | h :: t => (c :: h) :: t
theorem pieces_ne (l : List UInt8) : pieces l ≠ [] := by
  cases l with
  | nil => simp [pieces]
  | cons c l =>
    rw [pieces]
    split
    · simp
    · split <;> simp
/-- parts, each behind a slash -/
def flat : List (List UInt8) → List UInt8
  | [] => []
  | x :: xs => 47 :: (x ++ flat xs)
theorem flat_append (a b : List (List UInt8)) : flat (a ++ b) = flat a ++ flat b := by
  induction a with
  | nil => rfl
  | cons x a ih => simp [flat, ih]
theorem flat_tail (r : List (List UInt8)) : flat r = Lib.joinTail [47] r := by
  induction r with
  | nil => rfl
  | cons x r ih => rw [flat, ih]; simp [Lib.joinTail]
theorem flat_join {xs : List (List UInt8)} (h : xs ≠ []) : 47 :: Lib.join xs [47] = flat xs := by
  cases xs with
  | nil => exact absurd rfl h
  | cons x r => rw [Lib.join_cons, flat, flat_tail]
theorem pieces_flat : ∀ (xs : List (List UInt8)) (x : List UInt8), (∀ y ∈ x :: xs, (47 : UInt8) ∉ y) → pieces (x ++ flat xs) = x :: xs
  | [], [], _ => rfl
  | y :: ys, [], h => by
    rw [flat, List.nil_append, pieces, if_pos rfl, pieces_flat ys y (fun z hz => h z (List.mem_cons_of_mem _ hz))]
  | xs, c :: x, h => by
    have hc : c ≠ 47 := fun e => h (c :: x) (by simp) (by simp [e])
    rw [List.cons_append, pieces, if_neg hc, pieces_flat xs x]
    intro y hy
    rcases List.mem_cons.1 hy with rfl | hy
    · exact fun hm => h (c :: y) (by simp) (List.mem_cons_of_mem _ hm)
    · exact h y (List.mem_cons_of_mem _ hy)
theorem flat_pieces (r : List UInt8) : flat (pieces r) = 47 :: r := by
  induction r with
  | nil => rfl
  | cons c l ih =>
    rw [pieces]
    split
    · rename_i e
      rw [flat, ih, e]; rfl
    · split
      · rename_i e
        exact absurd e (pieces_ne l)
      · rename_i h t e
        rw [e, flat] at ih
        rw [flat, List.cons_append]
        injection ih with _ ih
        rw [ih]
theorem pieces_clean (r : List UInt8) : ∀ y ∈ pieces r, (47 : UInt8) ∉ y := by
  induction r with
  | nil => intro y hy; simp [pieces] at hy; subst hy; simp
  | cons c l ih =>
    rw [pieces]
    split
    · intro y hy
      rcases List.mem_cons.1 hy with rfl | hy
      · simp
      · exact ih y hy
    · rename_i hc
      split
      · rename_i e
        exact absurd e (pieces_ne l)
      · rename_i h t e
        rw [e] at ih
        intro y hy
        rcases List.mem_cons.1 hy with rfl | hy
        · have := ih h (by simp)
          simp only [List.mem_cons, not_or]
          exact ⟨fun q => hc q.symm, this⟩
        · exact ih y (List.mem_cons_of_mem _ hy)

theorem splitK_pieces (s : List UInt8) : Lib.splitK [47] 0 (Lib.count s [47]) s = pieces s := by
  induction s with
  | nil => rfl
  | cons b l ih =>
    by_cases hb : b = 47
    · subst hb
      rw [Lib.count_cons_eq, Nat.add_comm, Lib.splitK, pieces, if_pos rfl]
      have hi : Lib.index (47 :: l) [47] = 0 := by simp [Lib.index]
      rw [hi, if_neg (by decide)]
      simp [ih]
    · rw [Lib.count_cons_ne _ _ _ hb, pieces, if_neg hb, ← ih]
      cases hk : Lib.count l [47] with
      | zero => simp [Lib.splitK]
      | succ k =>
        have hge := Lib.index_ge l [47]
        have hne : Lib.index l [47] ≠ -1 := by
          intro e
          have := Lib.count_miss e
          omega
        obtain ⟨i, hi⟩ : ∃ i : Nat, Lib.index l [47] = i := ⟨(Lib.index l [47]).toNat, by omega⟩
        have h2 : Lib.index (b :: l) [47] = ((i + 1 : Nat) : Int) := by
          have hp : ([47] : List UInt8).isPrefixOf (b :: l) = false := by
            simp [List.isPrefixOf]; exact fun e => hb e.symm
          rw [Lib.index, hp, if_neg (by simp), hi, if_neg (by rw [beq_iff_eq]; omega)]
          rfl
        rw [Lib.splitK, Lib.splitK, h2, hi, if_neg (by rw [beq_iff_eq]; omega), if_neg (by rw [beq_iff_eq]; omega)]
        simp

/-- a path's parts, and why there are none -/
def splitP (p : List UInt8) : List (List UInt8) × Int :=
  if 256 < p.length then ([], 3) else match p with
  | [] => ([], 130)
  | c :: r => if c = 47 then (if r = [] then ([], 0) else if (pieces r).all nmOk then (if 16 < (pieces r).length then ([], 3) else (pieces r, 0)) else ([], 130)) else ([], 130)
/-- the path of parts -/
def pathS (xs : List (List UInt8)) : List UInt8 := if xs = [] then [47] else flat xs
def joinP (xs : List (List UInt8)) : List UInt8 × Int := if xs.all nmOk then (if 16 < xs.length ∨ 256 < (pathS xs).length then ([], 3) else (pathS xs, 0)) else ([], 130)
/-- why it is no name -/
def checkP (l : List UInt8) : Int := if nmOk l = true ∧ l ≠ [46] ∧ l ≠ [46, 46] then 0 else 130

/-- parts that are a path -/
def PathOk (xs : List (List UInt8)) : Prop := xs.all nmOk = true ∧ xs.length ≤ 16 ∧ (pathS xs).length ≤ 256

theorem splitP_flat (x : List UInt8) (xs : List (List UInt8)) (h : ∀ y ∈ x :: xs, (47 : UInt8) ∉ y) (hl : (flat (x :: xs)).length ≤ 256) (hne : x ++ flat xs ≠ []) :
    splitP (flat (x :: xs)) = if (x :: xs).all nmOk then (if 16 < (x :: xs).length then ([], 3) else (x :: xs, 0)) else ([], 130) := by
  unfold splitP
  rw [if_neg (by omega), flat]
  simp only [if_true, hne, if_false, pieces_flat xs x h]

theorem splitP_long {p : List UInt8} (h : 256 < p.length) : splitP p = ([], 3) := by unfold splitP; rw [if_pos h]
theorem splitP_root : splitP [47] = ([], 0) := rfl

theorem splitP_ok {p : List UInt8} {xs : List (List UInt8)} (h : splitP p = (xs, 0)) : PathOk xs ∧ p = pathS xs := by
  unfold splitP at h
  split at h
  · cases h
  · rename_i hl
    split at h
    · cases h
    · rename_i c r
      split at h
      · rename_i hc
        subst hc
        split at h
        · rename_i hr
          subst hr
          injection h with h _
          subst h
          exact ⟨⟨rfl, by simp, by simp [pathS]⟩, by simp [pathS]⟩
        · split at h
          · rename_i hall
            split at h
            · cases h
            · injection h with h _
              subst h
              have e : pathS (pieces r) = 47 :: r := by rw [pathS, if_neg (pieces_ne r), flat_pieces]
              exact ⟨⟨hall, by omega, by rw [e]; omega⟩, e.symm⟩
          · cases h
      · cases h

theorem all_slash {xs : List (List UInt8)} (h : xs.all nmOk = true) : ∀ y ∈ xs, (47 : UInt8) ∉ y := by
  rw [List.all_eq_true] at h
  exact fun y hy => nmOk_slash (h y hy)

theorem splitP_path {xs : List (List UInt8)} (h : PathOk xs) : splitP (pathS xs) = (xs, 0) := by
  obtain ⟨h1, h2, h3⟩ := h
  cases xs with
  | nil => rfl
  | cons x xs =>
    have e : pathS (x :: xs) = flat (x :: xs) := by simp [pathS]
    rw [e] at h3 ⊢
    have hx : nmOk x = true := by rw [List.all_cons, Bool.and_eq_true] at h1; exact h1.1
    have hx1 := (nmOk_iff.1 hx).1
    rw [splitP_flat x xs (all_slash h1) h3 (by intro q; rw [List.append_eq_nil_iff] at q; rw [q.1] at hx1; simp at hx1), if_pos h1, if_neg (by omega)]

theorem joinP_ok {xs : List (List UInt8)} {p : List UInt8} (h : joinP xs = (p, 0)) : PathOk xs ∧ p = pathS xs := by
  rw [joinP] at h
  split at h
  · rename_i h1
    split at h
    · cases h
    · rename_i h2
      injection h with h _
      exact ⟨⟨h1, by omega, by omega⟩, h.symm⟩
  · cases h
theorem joinP_path {xs : List (List UInt8)} (h : PathOk xs) : joinP xs = (pathS xs, 0) := by
  obtain ⟨h1, h2, h3⟩ := h
  rw [joinP, if_pos h1, if_neg (by omega)]
theorem joinP_err {xs : List (List UInt8)} (h : (joinP xs).2 ≠ 0) : (joinP xs).1 = [] := by
  rw [joinP] at h ⊢
  split
  · rename_i h1
    rw [if_pos h1] at h
    split
    · rfl
    · rename_i h2
      rw [if_neg h2] at h
      exact absurd rfl h
  · rfl
theorem splitP_err {p : List UInt8} (h : (splitP p).2 ≠ 0) : (splitP p).1 = [] ∧ ((splitP p).2 = 130 ∨ (splitP p).2 = 3) := by
  unfold splitP at h ⊢
  split
  · exact ⟨rfl, .inr rfl⟩
  · rename_i hl
    rw [if_neg hl] at h
    split
    · exact ⟨rfl, .inl rfl⟩
    · split
      · rename_i c r hc
        simp only [if_pos hc] at h
        split
        · rename_i hr
          rw [if_pos hr] at h
          exact absurd rfl h
        · rename_i hr
          rw [if_neg hr] at h
          split
          · rename_i ha
            rw [if_pos ha] at h
            split
            · exact ⟨rfl, .inr rfl⟩
            · rename_i h16
              rw [if_neg h16] at h
              exact absurd rfl h
          · exact ⟨rfl, .inl rfl⟩
      · exact ⟨rfl, .inl rfl⟩
theorem splitP_two (p : List UInt8) : splitP p = ((splitP p).1, 0) ∨ splitP p = ([], 130) ∨ splitP p = ([], 3) := by
  by_cases h : (splitP p).2 = 0
  · exact .inl (Prod.ext rfl h)
  · obtain ⟨h1, h2 | h2⟩ := splitP_err h
    · exact .inr (.inl (Prod.ext h1 h2))
    · exact .inr (.inr (Prod.ext h1 h2))

end Go.Proofs.YtlhkfpenfbakkaaDoor
