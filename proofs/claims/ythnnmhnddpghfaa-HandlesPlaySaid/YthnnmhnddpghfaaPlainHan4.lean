/- Plain facts: the table of descriptors beside the document's. No function in sight. -/
import Derived.Test.YthnnmhnddpghfaaHanRef4
import Derived.Test.YthnnmhnddpghfaaPlainHan3
import Derived.Test.YthnnmhnddpghfaaPlainHan4r
set_option linter.unusedVariables false
set_option linter.unusedSimpArgs false
namespace Go.Proofs.Ythnnmhnddpghfaa
open Go.RowKit Go.Joins

/-! ### the two tables -/

/-- the table T and the document's list L say the same -/
structure Same21 (T : List Sl) (L : List Rf) : Prop where
  len : T.length = 16
  to : ∀ x ∈ L, slotOf T x.f = some ⟨true, x.n, x.a⟩
  back : ∀ fd s, slotOf T fd = some s → (⟨fd, s.n, s.a⟩ : Rf) ∈ L
  nodup : (L.map (·.f)).Nodup
  many : L.length = T.countP (·.o)

section
variable {T : List Sl} {L : List Rf}

theorem same_start : Same21 zeroT [] := by
  refine ⟨rfl, (fun x hx => by cases hx), (fun fd s h => ?_), List.nodup_nil, by rfl⟩
  obtain ⟨_, _, h2, h3⟩ := slotOf_some h
  rw [zeroT, List.getElem?_replicate] at h2
  split at h2
  · injection h2 with h2; rw [← h2] at h3; cases h3
  · cases h2

theorem sm_le (h : Same21 T L) : L.length ≤ 16 := by
  rw [h.many, ← h.len]; exact List.countP_le_length

theorem sm_none (h : Same21 T L) {fd : Int} (hs : slotOf T fd = none) : rAt L fd = -1 := by
  refine rAt_none fun j hj => ⟨L[j], List.getElem?_eq_getElem hj, fun e => ?_⟩
  have := h.to L[j] (List.getElem_mem hj)
  rw [e, hs] at this
  cases this

theorem sm_some (h : Same21 T L) {fd : Int} {s : Sl} (hs : slotOf T fd = some s) : ∃ (k : Nat) (x : Rf), rAt L fd = k ∧ L[k]? = some x ∧ x.f = fd ∧ x.n = s.n ∧ x.a = s.a := by
  have hm := h.back fd s hs
  cases hf : L.findIdx? (fun x => x.f == fd) with
  | none =>
    rw [List.findIdx?_eq_none_iff] at hf
    have := hf _ hm
    simp at this
  | some k =>
    have hf2 := hf
    rw [List.findIdx?_eq_some_iff_getElem] at hf2
    obtain ⟨hk, h1, _⟩ := hf2
    have e : (L[k]).f = fd := by simpa using h1
    have h2 := h.to L[k] (List.getElem_mem hk)
    rw [e, hs] at h2
    injection h2 with h2
    refine ⟨k, L[k], by rw [rAt, hf], List.getElem?_eq_getElem hk, e, ?_, ?_⟩
    · rw [h2]
    · rw [h2]

theorem slotOf_at {k : Nat} {s : Sl} (hk : k < 16) (hs : T[k]? = some s) (ho : s.o = true) : slotOf T (k : Int) = some s := by
  rw [slotOf, if_pos (by omega), Int.toNat_natCast, hs]
  simp [Option.filter, ho]
theorem slotOf_shut {k : Nat} {s : Sl} (hk : k < 16) (hs : T[k]? = some s) (ho : s.o = false) : slotOf T (k : Int) = none := by
  rw [slotOf, if_pos (by omega), Int.toNat_natCast, hs]
  simp [Option.filter, ho]

theorem sm_free_some (h : Same21 T L) {k : Nat} (hf : firstFree T = some k) : k < 16 ∧ rAt L k = -1 ∧ ∀ j < k, 0 ≤ rAt L (j : Nat) := by
  obtain ⟨hk, ⟨s, hs, ho⟩, h2⟩ := free_some hf
  rw [h.len] at hk
  refine ⟨hk, sm_none h (slotOf_shut hk hs ho), fun j hj => ?_⟩
  obtain ⟨s', h3, h4⟩ := h2 j hj
  obtain ⟨k', x, e, _⟩ := sm_some h (slotOf_at (by omega) h3 h4)
  rw [e]; omega
theorem sm_free_none (h : Same21 T L) (hf : firstFree T = none) : ∀ j < 16, 0 ≤ rAt L (j : Nat) := by
  intro j hj
  obtain ⟨s', h3, h4⟩ := free_none hf j (by rw [h.len]; exact hj)
  obtain ⟨k', x, e, _⟩ := sm_some h (slotOf_at (by omega) h3 h4)
  rw [e]; omega

theorem slotOf_ne {fd : Int} {k : Nat} {y : Sl} (hne : fd ≠ k) : slotOf (T.set k y) fd = slotOf T fd := by
  unfold slotOf
  split
  · rw [List.getElem?_set_ne (by omega)]
  · rfl
theorem slotOf_eq (hl : T.length = 16) {k : Nat} {y : Sl} (hk : k < 16) : slotOf (T.set k y) (k : Int) = if y.o then some y else none := by
  rw [slotOf, if_pos (by omega), Int.toNat_natCast, List.getElem?_set_self (by omega)]
  cases hy : y.o <;> simp [Option.filter, hy]

theorem sm_opened (h : Same21 T L) {k : Nat} (n : Int) (hf : firstFree T = some k) : Same21 (T.set k ⟨true, n, 0⟩) (L ++ [⟨k, n, 0⟩]) := by
  obtain ⟨hk, ⟨s, hs, ho⟩, _⟩ := free_some hf
  rw [h.len] at hk
  have hn := slotOf_shut hk hs ho
  have hne : ∀ x ∈ L, x.f ≠ (k : Int) := by
    intro x hx e
    have := h.to x hx
    rw [e, hn] at this
    cases this
  refine ⟨by rw [List.length_set]; exact h.len, ?_, ?_, ?_, ?_⟩
  · intro x hx
    rcases List.mem_append.1 hx with hx | hx
    · rw [slotOf_ne (hne x hx)]; exact h.to x hx
    · rw [List.mem_singleton] at hx
      subst hx
      rw [slotOf_eq h.len hk]; rfl
  · intro fd s' h1
    by_cases c : fd = k
    · subst c
      rw [slotOf_eq h.len hk] at h1
      injection h1 with h1
      subst h1
      exact List.mem_append_right _ (List.mem_singleton.2 rfl)
    · rw [slotOf_ne c] at h1
      exact List.mem_append_left _ (h.back fd s' h1)
  · rw [List.map_append, List.nodup_append]
    refine ⟨h.nodup, by simp, ?_⟩
    intro a ha b hb
    rw [List.mem_map] at ha
    obtain ⟨x, hx, rfl⟩ := ha
    simp at hb
    subst hb
    exact hne x hx
  · have hk' : k < T.length := by rw [h.len]; exact hk
    have hg : T[k] = s := (List.getElem?_eq_some_iff.1 hs).2
    rw [List.countP_set hk', hg, ho, List.length_append, h.many]
    simp

theorem rf_unique (h : Same21 T L) {i k : Nat} {x y : Rf} (hx : L[i]? = some x) (hy : L[k]? = some y) (hne : i ≠ k) : x.f ≠ y.f := by
  obtain ⟨hi, e1⟩ := List.getElem?_eq_some_iff.1 hx
  obtain ⟨hk, e2⟩ := List.getElem?_eq_some_iff.1 hy
  have := h.nodup
  rw [List.Nodup, List.pairwise_iff_getElem] at this
  intro e
  rcases Nat.lt_or_gt_of_ne hne with c | c
  · refine this i k (by simpa using hi) (by simpa using hk) c ?_
    simp [e1, e2, e]
  · refine this k i (by simpa using hk) (by simpa using hi) c ?_
    simp [e1, e2, e]

theorem sm_sought (h : Same21 T L) {fd z : Int} {s : Sl} {k : Nat} {x : Rf} (hs : slotOf T fd = some s) (hx : L[k]? = some x) (hf : x.f = fd) (hn : x.n = s.n) : Same21 (T.set fd.toNat ⟨s.o, s.n, z⟩) (L.set k ⟨x.f, x.n, z⟩) := by
  obtain ⟨h0, h1, h2, h3⟩ := slotOf_some hs
  obtain ⟨f, rfl⟩ := Int.eq_ofNat_of_zero_le h0
  rw [Int.toNat_natCast] at h2 ⊢
  have hk16 : f < 16 := by omega
  obtain ⟨hk, e⟩ := List.getElem?_eq_some_iff.1 hx
  refine ⟨by rw [List.length_set]; exact h.len, ?_, ?_, ?_, ?_⟩
  · intro y hy
    obtain ⟨i, hi, e2⟩ := List.getElem_of_mem hy
    rw [List.length_set] at hi
    rw [List.getElem_set] at e2
    split at e2
    · rw [← e2]
      show slotOf _ x.f = _
      rw [hf, slotOf_eq h.len hk16, h3]
      simp [hn]
    · rename_i hne
      have := rf_unique h (List.getElem?_eq_getElem hi) hx (fun q => hne q.symm)
      rw [e2, hf] at this
      rw [slotOf_ne this]
      exact h.to y (by rw [← e2]; exact List.getElem_mem hi)
  · intro fd s' h4
    by_cases c : fd = f
    · subst c
      rw [slotOf_eq h.len hk16, h3] at h4
      injection h4 with h4
      subst h4
      rw [List.mem_iff_getElem?]
      exact ⟨k, by rw [List.getElem?_set_self hk, hf, hn]⟩
    · rw [slotOf_ne c] at h4
      have h5 := h.back fd s' h4
      rw [List.mem_iff_getElem?] at h5 ⊢
      obtain ⟨i, hi⟩ := h5
      refine ⟨i, ?_⟩
      rw [List.getElem?_set_ne]
      · exact hi
      · intro q
        subst q
        rw [hx] at hi
        injection hi with hi
        rw [hi] at hf
        exact c hf
  · have : (L.set k ⟨x.f, x.n, z⟩).map (·.f) = L.map (·.f) := by
      rw [List.map_set]
      have hh : (L.map (·.f))[k]? = some x.f := by rw [List.getElem?_map, hx]; rfl
      obtain ⟨hl, q⟩ := List.getElem?_eq_some_iff.1 hh
      rw [← q]; exact List.set_getElem_self hl
    rw [this]; exact h.nodup
  · have hk' : f < T.length := by rw [h.len]; exact hk16
    have hg : T[f] = s := (List.getElem?_eq_some_iff.1 h2).2
    have hpos : 0 < T.countP (·.o) := List.countP_pos_iff.2 ⟨s, List.mem_of_getElem? h2, h3⟩
    rw [List.countP_set hk', hg, h3, List.length_set, h.many]
    simp; omega

theorem mem_without {k : Nat} {y : Rf} : y ∈ L.take k ++ L.drop (k + 1) ↔ ∃ i, i ≠ k ∧ L[i]? = some y := by
  rw [← List.eraseIdx_eq_take_drop_succ, List.mem_eraseIdx_iff_getElem?]

theorem sm_closed (h : Same21 T L) {fd : Int} {s : Sl} {k : Nat} {x : Rf} (hs : slotOf T fd = some s) (hx : L[k]? = some x) (hf : x.f = fd) : Same21 (T.set fd.toNat Sl.none) (L.take k ++ L.drop (k + 1)) := by
  obtain ⟨h0, h1, h2, h3⟩ := slotOf_some hs
  obtain ⟨f, rfl⟩ := Int.eq_ofNat_of_zero_le h0
  rw [Int.toNat_natCast] at h2 ⊢
  have hk16 : f < 16 := by omega
  obtain ⟨hk, e⟩ := List.getElem?_eq_some_iff.1 hx
  refine ⟨by rw [List.length_set]; exact h.len, ?_, ?_, ?_, ?_⟩
  · intro y hy
    obtain ⟨i, hi, e2⟩ := mem_without.1 hy
    have := rf_unique h e2 hx hi
    rw [hf] at this
    rw [slotOf_ne this]
    exact h.to y (List.mem_of_getElem? e2)
  · intro fd s' h4
    by_cases c : fd = f
    · subst c
      rw [slotOf_eq h.len hk16] at h4
      cases h4
    · rw [slotOf_ne c] at h4
      have h5 := h.back fd s' h4
      rw [List.mem_iff_getElem?] at h5
      obtain ⟨i, hi⟩ := h5
      refine mem_without.2 ⟨i, fun q => ?_, hi⟩
      subst q
      rw [hx] at hi
      injection hi with hi
      rw [hi] at hf
      exact c hf
  · refine h.nodup.sublist (List.Sublist.map _ ?_)
    rw [← List.eraseIdx_eq_take_drop_succ]
    exact List.eraseIdx_sublist _ _
  · have hk' : f < T.length := by rw [h.len]; exact hk16
    have hg : T[f] = s := (List.getElem?_eq_some_iff.1 h2).2
    rw [List.countP_set hk', hg, h3, ← List.eraseIdx_eq_take_drop_succ, List.length_eraseIdx_of_lt hk, h.many]
    simp [Sl.none]

theorem sm_has (h : Same21 T L) (n : Int) : tHas T n = rHas L n := by
  rw [Bool.eq_iff_iff, tHas, rHas, List.any_eq_true, List.any_eq_true]
  constructor
  · rintro ⟨s, hs, hp⟩
    obtain ⟨j, hj, e⟩ := List.getElem_of_mem hs
    rw [hasP, Bool.and_eq_true] at hp
    refine ⟨_, h.back j s (slotOf_at (by rw [← h.len]; exact hj) (by rw [List.getElem?_eq_getElem hj, e]) hp.1), hp.2⟩
  · rintro ⟨x, hx, hp⟩
    have := slotOf_some (h.to x hx)
    exact ⟨_, List.mem_of_getElem? this.2.2.1, by rw [hasP, Bool.and_eq_true]; exact ⟨rfl, hp⟩⟩

theorem sm_full (h : Same21 T L) : tFull T = ((L.length : Int) == 16) := by
  rw [Bool.eq_iff_iff, tFull, List.all_eq_true, beq_iff_eq, h.many]
  have := h.len
  constructor
  · intro hh
    have := (List.countP_eq_length (p := fun s : Sl => s.o) (l := T)).2 hh
    omega
  · intro hh
    exact (List.countP_eq_length (p := fun s : Sl => s.o) (l := T)).1 (by omega)

theorem sm_nodes (h : Same21 T L) {out : List Int} (h1 : out.Pairwise (· < ·)) (h2 : ∀ y, y ∈ out ↔ y ∈ L.map (·.n)) : nodesOf T = out := by
  refine strict_ext _ _ (compact_strict _ ?_) h1 fun y => ?_
  · have := List.pairwise_mergeSort (le := fun x y : Int => decide (x ≤ y)) (fun a b c => by simp; omega) (fun a b => by simp; omega) (openN T 16)
    exact this.imp (fun h => by simpa using h)
  · rw [h2, nodesOf, compact_mem, List.mem_mergeSort, openN, List.mem_map, List.mem_map]
    have ht : T.take 16 = T := List.take_of_length_le (by rw [h.len]; omega)
    rw [ht]
    constructor
    · rintro ⟨s, hs, rfl⟩
      rw [List.mem_filter] at hs
      obtain ⟨j, hj, e⟩ := List.getElem_of_mem hs.1
      exact ⟨_, h.back j s (slotOf_at (by rw [← h.len]; exact hj) (by rw [List.getElem?_eq_getElem hj, e]) hs.2), rfl⟩
    · rintro ⟨x, hx, rfl⟩
      have := slotOf_some (h.to x hx)
      exact ⟨_, List.mem_filter.2 ⟨List.mem_of_getElem? this.2.2.1, rfl⟩, rfl⟩
end

end Go.Proofs.Ythnnmhnddpghfaa
