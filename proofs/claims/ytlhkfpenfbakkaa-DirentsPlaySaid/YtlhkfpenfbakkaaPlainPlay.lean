/- What entries put in and taken away, one behind the other, come to. -/
import Derived.Test.YtlhkfpenfbakkaaPlainUndo
set_option linter.unusedVariables false
set_option linter.unusedSimpArgs false
set_option maxRecDepth 100000
namespace Go.Proofs.Ytlhkfpenfbakkaa
open Go.RowKit Go.Joins

/-- what is known of a list that was played -/
def PlOk (L : List De) : Prop := packE L = 0

variable {L : List De}
theorem pl_nil : PlOk [] := show packE [] = 0 by decide +kernel
theorem pl_zero : packB [] = tx (List.replicate 128 0) := by decide +kernel
theorem PlOk.fit (h : PlOk L) : many L ≤ 128 := (packE_ok.1 h).2.2.2
theorem PlOk.len (h : PlOk L) : L.length ≤ 128 := Nat.le_trans (len_many L) h.fit
theorem PlOk.room (h : PlOk L) : roomP (packB L) = 128 - (many L : Int) := by rw [roomP, parse_pack h]
theorem PlOk.remove (h : PlOk L) (nm : ByteArray) : removeP (packB L) nm = match placeP L nm with
    | some i => (packB (L.take i ++ L.drop (i + 1)), true)
    | none => (packB L, false) := by
  rw [removeP, parse_pack h]
  rfl
theorem PlOk.insert (h : PlOk L) (x : De) : insertP (packB L) x = (packB (L ++ [x]), packE (L ++ [x])) := by rw [insertP, parse_pack h]
theorem PlOk.out (h : PlOk L) (i : Nat) : PlOk (L.take i ++ L.drop (i + 1)) := by
  refine packE_sub h ?_
  rw [← List.eraseIdx_eq_take_drop_succ]
  exact List.eraseIdx_sublist L i
theorem out_many {L : List De} {i : Nat} {d : De} (hd : L[i]? = some d) : (many (L.take i ++ L.drop (i + 1)) : Int) = (many L : Int) - 5 - (d.nm.size : Int) := by
  obtain ⟨hi, he⟩ := List.getElem?_eq_some_iff.1 hd
  have h8 := List.take_append_drop i L
  rw [List.drop_eq_getElem_cons hi, he] at h8
  have h9 : many L = many (L.take i ++ d :: L.drop (i + 1)) := by rw [h8]
  rw [h9, many_append, many_append, many_cons, De.sz]
  omega

/-- the names stand one time each -/
theorem PlOk.uniq (h : PlOk L) {i j : Nat} {x y : De} (hi : L[i]? = some x) (hj : L[j]? = some y) (he : x.bs = y.bs) : i = j := by
  have hn := (packE_ok.1 h).2.2.1
  obtain ⟨h1, e1⟩ := List.getElem?_eq_some_iff.1 hi
  obtain ⟨h2, e2⟩ := List.getElem?_eq_some_iff.1 hj
  refine (List.getElem_inj (h₀ := by simpa using h1) (h₁ := by simpa using h2) hn).1 ?_
  simp only [List.getElem_map, e1, e2]
  exact he
theorem PlOk.find (h : PlOk L) {k : Nat} {d : De} (hd : L[k]? = some d) : findP (packB L) d.nm = (d.ino, true) := by
  have hp : ∃ i, placeP L d.nm = some i := by
    cases hc : placeP L d.nm with
    | some i => exact ⟨i, rfl⟩
    | none =>
      rw [placeP, List.findIdx?_eq_none_iff] at hc
      have := hc d (List.mem_of_getElem? hd)
      simp [deP] at this
  obtain ⟨i, hi⟩ := hp
  obtain ⟨hil, hf, hb⟩ := find_place hi
  have : i = k := h.uniq (List.getElem?_eq_getElem hil) hd hb
  subst this
  rw [findP, parse_pack h]
  show (match L.find? (deP d.nm) with | some d => (d.ino, true) | none => (0, false)) = _
  rw [hf]
  obtain ⟨_, e⟩ := List.getElem?_eq_some_iff.1 hd
  rw [e]

/-- where the name stands among the first ones -/
def atP (L : List De) (nm : ByteArray) (k : Nat) : Int := fIdx ((L.take k).findIdx? (deP nm))
theorem atP_zero (L : List De) (nm : ByteArray) : atP L nm 0 = -1 := by rw [atP, List.take_zero]; rfl
theorem PlOk.at_yes (h : PlOk L) {nm : ByteArray} {k : Nat} {d : De} (hd : L[k]? = some d) (he : deP nm d = true) : atP L nm (k + 1) = (k : Int) := by
  have h1 : (L.take (k + 1)).findIdx? (deP nm) = some k := by
    rw [List.findIdx?_eq_some_iff_getElem]
    obtain ⟨hk, e⟩ := List.getElem?_eq_some_iff.1 hd
    refine ⟨by simp; omega, by simp [e, he], fun j hj hn => ?_⟩
    simp only [List.getElem_take] at hn
    have := h.uniq (List.getElem?_eq_getElem (show j < L.length by omega)) hd ((deP_iff.1 hn).trans (deP_iff.1 he).symm)
    omega
  rw [atP, h1]; rfl
theorem at_no {L : List De} {nm : ByteArray} {k : Nat} {d : De} (hd : L[k]? = some d) (he : deP nm d = false) : atP L nm (k + 1) = atP L nm k := by
  rw [atP, atP, take_snoc hd, List.findIdx?_append]
  cases hc : (L.take k).findIdx? (deP nm) with
  | some i => simp
  | none => simp [he]
theorem at_all (L : List De) (nm : ByteArray) : atP L nm L.length = fIdx (placeP L nm) := by rw [atP, List.take_length, placeP]

/-- what an insertion answers -/
theorem PlOk.ins_ok (h : PlOk L) {x : De} (hx : packE (L ++ [x]) = 0) : placeP L x.nm = none ∧ many (L ++ [x]) = many L + 5 + x.nm.size := by
  refine ⟨?_, by rw [many_append, many_one, De.sz]; omega⟩
  rw [placeP, List.findIdx?_eq_none_iff]
  intro d hd
  have hn := (packE_ok.1 hx).2.2.1
  rw [List.map_append, List.nodup_append] at hn
  have := hn.2.2 d.bs (List.mem_map_of_mem hd) x.bs (by simp)
  simp only [deP, decide_eq_false_iff_not]
  exact this
theorem ins_bad {L : List De} {x : De} (hx : packE (L ++ [x]) ≠ 0) : packB (L ++ [x]) = tx [] := by rw [packB, if_neg hx]

theorem PlOk.ins_err (h : PlOk L) {x : De} (hx : packE (L ++ [x]) ≠ 0) :
    packE (L ++ [x]) ≠ 80 ∧ (packE (L ++ [x]) = 211 ↔ (0 ≤ fIdx (placeP L x.nm) ∧ 0 ≤ x.ino ∧ x.ino ≤ 4294967295)) ∧ (packE (L ++ [x]) = 120 → ¬ 5 + (x.nm.size : Int) ≤ 128 - (many L : Int)) := by
  obtain ⟨g1, g2, g3, g4⟩ := packE_ok.1 h
  have hm : many (L ++ [x]) = many L + x.sz := by rw [many_append, many_one]
  have hsz : x.sz = 5 + x.nm.size := rfl
  have hdup : 0 ≤ fIdx (placeP L x.nm) ↔ dupP (L ++ [x]) = true := by
    constructor
    · intro h0
      cases hc : placeP L x.nm with
      | none => rw [hc] at h0; exact absurd h0 (by decide)
      | some i =>
        obtain ⟨hil, _, hb⟩ := find_place hc
        have : ¬ ((L ++ [x]).map De.bs).Nodup := by
          intro hn
          rw [List.map_append, List.nodup_append] at hn
          exact hn.2.2 (L[i]).bs (List.mem_map_of_mem (List.getElem_mem hil)) x.bs (by simp) hb
        rw [dupP, decide_eq_false this]; rfl
    · intro h0
      cases hc : placeP L x.nm with
      | some i => exact Int.natCast_nonneg i
      | none =>
        rw [placeP, List.findIdx?_eq_none_iff] at hc
        have : ((L ++ [x]).map De.bs).Nodup := by
          rw [List.map_append, List.nodup_append]
          refine ⟨g3, by simp, fun a ha b hb => ?_⟩
          obtain ⟨d, hd, rfl⟩ := List.mem_map.1 ha
          have hbx : b = x.bs := by simpa using hb
          subst hbx
          have := hc d hd
          simpa [deP] using this
        rw [dupP, decide_eq_true this] at h0; cases h0
  have hall : ∀ p : De → Bool, (∀ d ∈ L, p d = true) → (L ++ [x]).all p = p x := by
    intro p hp
    rw [List.all_append]
    simp
    intro _ d hd
    exact hp d hd
  have hnm := hall De.nameOk g1
  have hio := hall De.inoOk g2
  have hname : dupP (L ++ [x]) = true → x.nameOk = true := by
    intro hd
    have h0 := hdup.2 hd
    cases hc : placeP L x.nm with
    | none => rw [hc] at h0; exact absurd h0 (by decide)
    | some i =>
      obtain ⟨hil, _, hb⟩ := find_place hc
      have := g1 _ (List.getElem_mem hil)
      rw [De.nameOk, hb] at this
      exact this
  rw [hdup, ← De.inoOk_iff]
  revert hx
  unfold packE
  rw [hnm, hio]
  cases hx1 : x.nameOk <;> cases hx2 : x.inoOk <;> cases hx3 : dupP (L ++ [x]) <;> simp <;> first
    | (have := hname hx3; rw [hx1] at this; simp at this; done)
    | (split <;> simp <;> omega)
    | skip
end Go.Proofs.Ytlhkfpenfbakkaa
