/- What an entry put in, and taken away, comes to. -/
import Derived.Test.YtlhkfpenfbakkaaDirLaw
set_option linter.unusedVariables false
set_option linter.unusedSimpArgs false
set_option maxRecDepth 100000
namespace Go.Proofs.Ytlhkfpenfbakkaa
open Go.RowKit Go.Joins

theorem roomP_range (s : ByteArray) : 0 ≤ roomP s ∧ roomP s ≤ 128 := by
  rw [roomP]
  cases h : parseP s with
  | none => simp
  | some l =>
    have := (packE_ok.1 (parseP_ok h).1).2.2.2
    show (0 : Int) ≤ 128 - (many l : Int) ∧ (128 - (many l : Int)) ≤ 128
    omega

theorem deP_iff {nm : ByteArray} {d : De} : deP nm d = true ↔ d.bs = bts nm := by simp [deP]

/-- the place of the last name, if no other has it -/
theorem place_last {l : List De} {x : De} (h : ((l ++ [x]).map De.bs).Nodup) : placeP (l ++ [x]) x.nm = some l.length := by
  rw [placeP, List.findIdx?_eq_some_iff_getElem]
  refine ⟨by simp, by simp [deP], fun j hj => ?_⟩
  rw [List.map_append, List.nodup_append] at h
  have h3 := h.2.2 (l[j]).bs (List.mem_map_of_mem (List.getElem_mem hj)) x.bs (by simp)
  rw [List.getElem_append_left hj]
  simp only [deP, decide_eq_true_eq]
  exact h3

theorem find_place {l : List De} {nm : ByteArray} {i : Nat} (h : placeP l nm = some i) : ∃ hi : i < l.length, l.find? (deP nm) = some l[i] ∧ (l[i]).bs = bts nm := by
  have h2 := h
  rw [placeP, List.findIdx?_eq_some_iff_getElem] at h2
  obtain ⟨hi, h3, _⟩ := h2
  refine ⟨hi, ?_, deP_iff.1 h3⟩
  have := find_of_idx (deP nm) l
  rw [placeP] at h
  rw [this, h]
  exact List.getElem?_eq_getElem hi

theorem undo_in {b : ByteArray} {x : De} (h : (insertP b x).2 = 0) :
    removeP (insertP b x).1 x.nm = (b, true) ∧ findP (insertP b x).1 x.nm = (x.ino, true) ∧ roomP (insertP b x).1 = roomP b - 5 - (x.nm.size : Int) := by
  rw [insertP] at h ⊢
  cases hp : parseP b with
  | none => rw [hp] at h; simp at h
  | some l =>
    rw [hp] at h
    simp only at h ⊢
    have h1 := parse_pack h
    have hn := (packE_ok.1 h).2.2.1
    have hpl := place_last hn
    obtain ⟨hi, hf, _⟩ := find_place hpl
    have hg : (l ++ [x])[l.length] = x := by simp
    refine ⟨?_, ?_, ?_⟩
    · rw [removeP, h1]
      simp only [hpl]
      rw [List.take_left', List.drop_eq_nil_of_le (by simp), List.append_nil, (parseP_ok hp).2]
      rfl
    · rw [findP, h1]
      show (match (l ++ [x]).find? (deP x.nm) with | some d => (d.ino, true) | none => (0, false)) = _
      rw [hf, hg]
    · rw [roomP, roomP, h1, hp]
      show (128 - ((many (l ++ [x]) : Nat) : Int)) = 128 - ((many l : Nat) : Int) - 5 - _
      rw [many_append, many_one, De.sz]
      omega

theorem packE_perm {l m : List De} (h : packE l = 0) (hp : m.Perm l) : packE m = 0 := by
  obtain ⟨h1, h2, h3, h4⟩ := packE_ok.1 h
  refine packE_ok.2 ⟨fun d hd => h1 d (hp.subset hd), fun d hd => h2 d (hp.subset hd), ((hp.map De.bs).nodup_iff).2 h3, ?_⟩
  have : many m = many l := by
    rw [many, many]
    exact (hp.map De.sz).sum_nat
  omega

theorem undo_out {b nm : ByteArray} {n : Int} (h : findP b nm = (n, true)) :
    (removeP b nm).2 = true ∧ (insertP (removeP b nm).1 ⟨nm, n⟩).2 = 0 ∧ ∃ l m m', parseP b = some l ∧ parseP (insertP (removeP b nm).1 ⟨nm, n⟩).1 = some m ∧ l.length = m.length ∧ m = m' ++ [⟨nm, n⟩] := by
  rw [findP] at h
  cases hp : parseP b with
  | none => rw [hp] at h; simp at h
  | some l =>
    rw [hp] at h
    simp only [Option.getD_some] at h
    have hok := (parseP_ok hp).1
    cases hf : l.find? (deP nm) with
    | none => rw [hf] at h; simp at h
    | some d =>
      rw [hf] at h
      simp only [Prod.mk.injEq, and_true] at h
      have hx := find_of_idx (deP nm) l
      rw [hf] at hx
      cases hi : l.findIdx? (deP nm) with
      | none => rw [hi] at hx; simp at hx
      | some i =>
        rw [hi] at hx
        simp only at hx
        obtain ⟨hil, hid⟩ := List.getElem?_eq_some_iff.1 hx.symm
        have hdn : d.bs = bts nm := deP_iff.1 (List.find?_some hf)
        have hd : (⟨nm, n⟩ : De) = d := De.ext' hdn.symm (by show n = d.ino; exact h.symm)
        have hsub : (l.take i ++ l.drop (i + 1)).Sublist l := by
          rw [← List.eraseIdx_eq_take_drop_succ]
          exact List.eraseIdx_sublist l i
        have hk1 := packE_sub hok hsub
        have hperm : (l.take i ++ l.drop (i + 1) ++ [d]).Perm l := by
          have e : l.take i ++ (d :: l.drop (i + 1)) = l := by
            have h8 := List.take_append_drop i l
            rw [List.drop_eq_getElem_cons hil, hid] at h8
            exact h8
          have h9 : (l.take i ++ l.drop (i + 1) ++ [d]).Perm (l.take i ++ (d :: l.drop (i + 1))) := by
            rw [List.append_assoc]
            exact List.Perm.append_left _ List.perm_append_comm
          rw [e] at h9
          exact h9
        have hk2 := packE_perm hok hperm
        have hr : removeP b nm = (packB (l.take i ++ l.drop (i + 1)), true) := by
          rw [removeP, hp]
          simp only [placeP, hi]
        rw [hr]
        have hins : insertP (packB (l.take i ++ l.drop (i + 1))) ⟨nm, n⟩ = (packB (l.take i ++ l.drop (i + 1) ++ [d]), 0) := by
          rw [insertP, parse_pack hk1, hd]
          simp only [hk2]
        rw [hins]
        refine ⟨rfl, rfl, l, _, l.take i ++ l.drop (i + 1), rfl, parse_pack hk2, ?_, by rw [hd]⟩
        exact hperm.length_eq.symm

/-- the memory of a struct of the call's own, and all below it -/
structure UG (w W : World) (x : De) : Prop where
  row : RowAt W w.heap.size [.string x.nm, .int .i64 x.ino]
  below : Below w.heap.size w W
theorem UG.cells {w W : World} {x : De} (h : UG w W x) : W.cell? ⟨w.heap.size, 0, none⟩ = some (.string x.nm) ∧ W.cell? ⟨w.heap.size, 1, none⟩ = some (.int .i64 x.ino) ∧ UG w W x :=
  ⟨h.row.cell 0 (by simp), h.row.cell 1 (by simp), h⟩
theorem UG.keep {w W W' : World} {x : De} (h : UG w W x) (hb : Below W.heap.size W W') : UG w W' x :=
  ⟨h.row.below hb h.row.lt, below_chain h.below hb h.below.size⟩
theorem ug_keep {w W W' : World} {x : De} (h : W.cell? ⟨w.heap.size, 0, none⟩ = some (.string x.nm) ∧ W.cell? ⟨w.heap.size, 1, none⟩ = some (.int .i64 x.ino) ∧ UG w W x) (hb : Below W.heap.size W W') :
    W'.cell? ⟨w.heap.size, 0, none⟩ = some (.string x.nm) ∧ W'.cell? ⟨w.heap.size, 1, none⟩ = some (.int .i64 x.ino) ∧ UG w W' x := (h.2.2.keep hb).cells
theorem ug_start (w : World) (x : De) : UG w (w.alloc (.cells #[.string x.nm, .int .i64 x.ino] 25)) x :=
  ⟨rowAt_alloc w #[.string x.nm, .int .i64 x.ino] 25, (Below.refl _ _).alloc (Nat.le_refl _) _⟩

end Go.Proofs.Ytlhkfpenfbakkaa
