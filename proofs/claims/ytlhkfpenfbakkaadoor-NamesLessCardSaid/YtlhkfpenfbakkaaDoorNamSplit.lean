/- Walks: a text cut at its slashes: strings.genSplit; names.Split. -/
import Derived.Test.YtlhkfpenfbakkaaDoorNamWalks
import Derived.Lib.IndexLaws
set_option linter.unusedVariables false
set_option linter.unusedSimpArgs false
set_option maxRecDepth 100000
namespace Go.Proofs.YtlhkfpenfbakkaaDoor
open Go.RowKit Go.Joins

theorem pieces_cut : ∀ {l : List UInt8} {m : Nat}, l[m]? = some 47 → (∀ k, k < m → l[k]? ≠ some 47) → pieces l = l.take m :: pieces (l.drop (m + 1))
  | [], m, h, _ => by simp at h
  | c :: l, 0, h, _ => by
    have : c = 47 := by simpa using h
    rw [pieces, if_pos this]; rfl
  | c :: l, m + 1, h, h2 => by
    have hc : ¬ c = 47 := by
      intro e
      exact h2 0 (by omega) (by simp [e])
    have ih := pieces_cut (l := l) (m := m) (by simpa using h) (fun k hk => by simpa using h2 (k + 1) (by omega))
    rw [pieces, if_neg hc, ih]
    rfl
theorem pieces_one {l : List UInt8} (h : (47 : UInt8) ∉ l) : pieces l = [l] := by
  have := pieces_flat [] l (by intro y hy; simp at hy; subst hy; exact h)
  rw [flat, List.append_nil] at this
  exact this
theorem pieces_len (l : List UInt8) : (pieces l).length = l.count 47 + 1 := by
  induction l with
  | nil => rfl
  | cons c l ih =>
    rw [pieces]
    split
    · rename_i e
      subst e
      rw [List.length_cons, ih, List.count_cons_self]
    · rename_i e
      rw [List.count_cons_of_ne (by simpa using e)]
      split
      · rename_i h
        exact absurd h (pieces_ne l)
      · rename_i h t he
        rw [he] at ih
        rw [← ih]; rfl

theorem bts_extract (s : ByteArray) (a b : Nat) : bts (s.extract a b) = ((bts s).drop a).take (b - a) := by
  simp [bts, ByteArray.data_extract, List.drop_take]
theorem bts_from (s : ByteArray) (a : Nat) : bts (s.extract a s.size) = (bts s).drop a := by
  rw [bts_extract, List.take_of_length_le (by rw [List.length_drop, bts_length]; exact Nat.le_refl _)]
theorem bts_to (s : ByteArray) (a : Nat) : bts (s.extract 0 a) = (bts s).take a := by
  rw [bts_extract]; simp
theorem bts_ext {s t : ByteArray} (h : bts s = bts t) : s = t := ByteArray.ext (Array.toList_inj.1 h)

theorem info_str : (Tryd.prog.info? 9).map (fun i => (i.zero, i.size, i.bytes)) = some (some (.string ⟨#[]⟩), 1, 16) := by kernel_rfl

/-- how far the cutting has come: what is cut off, what is left -/
structure CutAt (s : ByteArray) (r : ByteArray) (done : List ByteArray) : Prop where
  all : pieces (bts s) = done.map bts ++ pieces (bts r)
  left : (bts r).count 47 + done.length = (bts s).count 47
  size : r.size ≤ s.size
theorem CutAt.start (s : ByteArray) : CutAt s s [] := ⟨rfl, rfl, Nat.le_refl _⟩
theorem CutAt.step {s r : ByteArray} {done : List ByteArray} (h : CutAt s r done) {m : Nat} (h1 : (bts r)[m]? = some 47) (h2 : ∀ k, k < m → (bts r)[k]? ≠ some 47) : CutAt s (r.extract (m + 1) r.size) (done ++ [r.extract 0 m]) := by
  have e := pieces_cut h1 h2
  have hl := pieces_len (bts r)
  rw [e, List.length_cons, pieces_len] at hl
  refine ⟨?_, ?_, ?_⟩
  · rw [h.all, e, List.map_append, bts_from, List.map_cons, List.map_nil, bts_to, List.append_assoc]; rfl
  · rw [bts_from, List.length_append]
    have := h.left
    simp only [List.length_cons, List.length_nil]
    omega
  · have := h.size
    rw [ByteArray.size_extract]; omega
theorem CutAt.stop {s r : ByteArray} {done : List ByteArray} (h : CutAt s r done) (h1 : (bts s).count 47 ≤ done.length) : pieces (bts s) = (done ++ [r]).map bts := by
  have h0 : (bts r).count 47 = 0 := by have := h.left; omega
  rw [h.all, pieces_one (List.count_eq_zero.1 h0), List.map_append]; rfl
/-- the cells: what is cut off; nothing yet -/
def cutC (done : List ByteArray) (k : Nat) : List Value := strs done ++ List.replicate k (.string ⟨#[]⟩)
theorem cutC_len (done : List ByteArray) (k : Nat) : (cutC done k).length = done.length + k := by simp [cutC, strs]
theorem set_mid {α : Type} (xs : List α) (y v : α) (zs : List α) : (xs ++ y :: zs).set xs.length v = xs ++ v :: zs := by
  induction xs with
  | nil => rfl
  | cons x xs ih => simp [ih]
theorem cutC_set (done : List ByteArray) (k : Nat) (x : ByteArray) : (cutC done (k + 1)).set done.length (.string x) = cutC (done ++ [x]) k := by
  have h := set_mid (strs done) (.string ⟨#[]⟩) (.string x) (List.replicate k (.string ⟨#[]⟩))
  rw [strs_len] at h
  unfold cutC
  rw [List.replicate_succ, h]
  simp [strs]

set_option maxHeartbeats 4000000 in
theorem gensplit_any (s : ByteArray) (w : World) (hs : s.size ≤ 100000) : Calls Tryd.prog 25 #[.string s, .string ⟨#[47]⟩, .int .i64 0, .int .i64 (-1)] w fun e w' => (∃ (l : List ByteArray) (g : Nat), pieces (bts s) = l.map bts ∧ e = .returned (.slice (some ⟨g, 0, none⟩) l.length l.length) ∧ w.heap.size ≤ g ∧ RowAt w' g (strs l)) ∧ Below w.heap.size w w' := by
  obtain ⟨c, hc⟩ : ∃ c, c = (bts s).count 47 := ⟨_, rfl⟩
  have hcs : c ≤ s.size := by rw [hc, ← bts_length s]; exact List.count_le_length
  have hcnt := Tryd.strings_Count_one s 47 w
  rw [show Lib.countByte s.data.toList 47 = c from hc.symm] at hcnt
  have HCn := Lib.hid hcnt
  have HIx := Lib.hid (fun (r : ByteArray) W => Tryd.strings_Index_one r 47 W)
  obtain ⟨i0, hi, hz0, hz1, hz2⟩ := info_parts info_str
  obtain ⟨W0, hmk, how, hgr⟩ := run_make_full (P := Tryd.prog) w w.heap.size 22 9 i0 (.string ⟨#[]⟩) 1 Tryd.underlying22 hi hz0 hz1 .i64 .i64 (c + 1) (by rw [hz2]; omega) (by unfold maxLen; omega) (Nat.le_refl _)
  have hB0 : Below w.heap.size w W0 := ⟨hgr.os, hgr.tape, hgr.output, hgr.size, fun k hk => hgr.block k hk (by simp)⟩
  have hR0 : RowAt W0 w.heap.size (cutC [] (c + 1)) := by
    have e1 : (madeCells (Value.string ⟨#[]⟩).cells ((c + 1) * 1)).toList = cutC [] (c + 1) := by
      rw [Nat.mul_one]
      show (madeCells #[.string ⟨#[]⟩] (c + 1)).toList = _
      rw [toList_madeCells_one]
      simp [cutC, strs]
    rw [e1] at how
    refine rowAt_own how (by rw [cutC_len]; simp) ?_
    exact (World.ownsRow.lt how w.heap.size rfl).2
  have hmk : (Instr.makeSlice 22 (.int .i64 ((c : Int) + 1)) (.int .i64 ((c : Int) + 1))).run Tryd.prog w = .ok (.slice (some ⟨w.heap.size, 0, none⟩) (c + 1) (c + 1)) W0 := hmk
  have HC := Lib.hid hc
  have hw1 : IntKind.i64.wrap ((c : Int) + 1) = (c : Int) + 1 := IntWalk.i64_in _ (by omega)
  have hw2 : IntKind.i64.wrap ((s.size : Int) + 1) = (s.size : Int) + 1 := IntWalk.i64_in _ (by omega)
  have hmn : ¬ ((s.size : Int) + 1 < (c : Int) + 1) := by omega
  have hmn2 : (c : Int) + 1 ≤ (s.size : Int) + 1 := by omega
  have hn0 : ¬ ((c : Int) + 1 < 0) := by omega
  have hmin : min (c : Int) (s.size : Int) = (c : Int) := by omega
  clear hc hcnt hi hz0 hz1 hz2 how hgr
  go_enter Tryd.func25, Tryd.ntmps25
  go_wp2_with fail
  refine HCn.out.mono ?_
  rintro e w1 ⟨rfl, hww⟩
  obtain rfl := hww.symm
  clear hww hmn hmn2
  go_wp2_with fail
  clear hmk
  go_loopw [0, 10] (fun rr jj wr => ∃ (r : ByteArray) (done : List ByteArray), rr = .string r ∧ jj = .int .i64 done.length ∧ done.length ≤ c ∧ Hid (CutAt s r done ∧ RowAt wr w.heap.size (cutC done (c + 1 - done.length)) ∧ Below w.heap.size w wr)) (fun _ jj _ => c - (intOf jj).toNat)
  case atStart => exact ⟨s, [], rfl, rfl, by simp, CutAt.start s, hR0, hB0⟩
  case round =>
    obtain ⟨r, done, rfl, rfl, hk, HG⟩ := hrel
    clear hB0 hR0
    obtain ⟨k, hk0⟩ : ∃ k, k = done.length := ⟨_, rfl⟩
    have HK := Lib.hid hk0
    rw [← hk0] at hk
    rw [← hk0]
    clear hk0
    have hrs : r.size ≤ 100000 := by have := HG.out.1.size; omega
    have hrow := HG.out.2.1
    have hlen : (cutC done (c + 1 - done.length)).length = c + 1 := by rw [cutC_len]; have := HK.out; omega
    obtain ⟨v0, m0⟩ := hrow.there k (by omega)
    have z0 := hrow.frozen k (by omega)
    have i2 : (0 : Int) ≤ (k : Int) := by omega
    have i3 : (k : Int) < (c : Int) + 1 := by omega
    clear hrow hlen
    by_cases hlt : k < c
    · have i1 : (k : Int) < (c : Int) := by omega
      have hI := HIx.out r wr
      have hne : Lib.indexByte r.data.toList 47 ≠ -1 := by
        intro e
        have h0 : (bts r).count 47 = 0 := by
          rw [List.count_eq_zero]
          intro hm
          obtain ⟨j, hj, he⟩ := List.getElem_of_mem hm
          exact Lib.indexByte_none e j (by rw [List.getElem?_eq_getElem hj, he])
        have := HG.out.1.left
        have := HC.out
        have := HK.out
        omega
      have hge := Lib.indexByte_ge r.data.toList 47
      obtain ⟨o, ho⟩ : ∃ o : Nat, Lib.indexByte r.data.toList 47 = o := ⟨(Lib.indexByte r.data.toList 47).toNat, by omega⟩
      rw [ho] at hI
      obtain ⟨p1, p2⟩ := Lib.indexByte_some ho
      have hor : o < r.size := by
        have := (List.getElem?_eq_some_iff.1 p1).1
        rw [← bts_length r]; exact this
      have HS := Lib.hid (HG.out.1.step p1 p2)
      have HI := Lib.hid hI
      have j1 : (0 : Int) ≤ (o : Int) := by omega
      have j2 : (o : Int) ≤ (r.size : Int) := by omega
      have j3 : (o : Int) + 1 ≤ (r.size : Int) := by omega
      have j4 : (0 : Int) ≤ (o : Int) + 1 := by omega
      have j5 : ¬ ((o : Int) < 0) := by omega
      have j6 : IntKind.i64.wrap ((o : Int) + 1) = (o : Int) + 1 := IntWalk.i64_in _ (by omega)
      have j7 : IntKind.i64.wrap (o : Int) = (o : Int) := IntWalk.i64_in _ (by omega)
      clear hI hne hge ho p1 p2
      go_wp2_with fail
      refine HI.out.mono ?_
      rintro e w5 ⟨rfl, hww⟩
      obtain rfl := hww.symm
      clear hww HI
      go_wp2_with fail
      go_roundw
      case rel =>
        refine ⟨r.extract (o + 1) r.size, done ++ [r.extract 0 o], by rfl, ?_, by have := HK.out; simp; omega, HS.out, ?_, HG.out.2.2.setCell (p := ⟨w.heap.size, k, none⟩) (Nat.le_refl _) _⟩
        · have := HK.out
          rw [this]
          simp
        · have h9 := HG.out.2.1.set k (.string (r.extract 0 o))
          have e : c + 1 - done.length = (c + 1 - (done ++ [r.extract 0 o]).length) + 1 := by have := HK.out; simp; omega
          rw [e, HK.out, cutC_set, ← HK.out] at h9
          exact h9
      case measure => simp [intOf]; omega
    · obtain rfl : k = c := by omega
      have hnl : ¬ ((k : Int) < (k : Int)) := by omega
      have HP := Lib.hid (HG.out.1.stop (by have := HC.out; have := HK.out; omega))
      have hR : Hid (RowAt (wr.setCell ⟨w.heap.size, k, none⟩ (.string r)) w.heap.size (strs (done ++ [r]))) := by
        show RowAt _ _ _
        have h9 := HG.out.2.1.set k (.string r)
        have e : k + 1 - done.length = 0 + 1 := by have := HK.out; omega
        rw [e, HK.out, cutC_set, ← HK.out] at h9
        have e2 : cutC (done ++ [r]) 0 = strs (done ++ [r]) := by simp [cutC]
        rw [e2] at h9
        exact h9
      have hB := HG.out.2.2.setCell (p := ⟨w.heap.size, k, none⟩) (Nat.le_refl _) (.string r)
      have hl : Hid ((done ++ [r]).length = k + 1) := by show _ = _; have := HK.out; simp; omega
      go_wp2_with fail
      go_ret
      exact ⟨⟨done ++ [r], HP.out, w.heap.size, by rw [hl.out]; rfl, Nat.le_refl _, hR.out⟩, hB⟩

theorem ssplit_any (s : ByteArray) (w : World) (hs : s.size ≤ 100000) : Calls Tryd.prog 19 #[.string s, .string ⟨#[47]⟩] w fun e w' => (∃ (l : List ByteArray) (g : Nat), pieces (bts s) = l.map bts ∧ e = .returned (.slice (some ⟨g, 0, none⟩) l.length l.length) ∧ w.heap.size ≤ g ∧ RowAt w' g (strs l)) ∧ Below w.heap.size w w' := by
  have HG := Lib.hid (gensplit_any s w hs)
  go_enter Tryd.func19, Tryd.ntmps19
  go_wp2_with fail
  refine HG.out.mono ?_
  rintro e w1 ⟨⟨l, g, h1, rfl, h2, h3⟩, hb⟩
  have H1 := Lib.hid (And.intro h1 h3)
  clear h1 h3
  go_wp2_with fail
  go_ret
  exact ⟨⟨l, g, H1.out.1, rfl, h2, H1.out.2⟩, hb⟩

/-- what Split answers: parts, an error's number -/
def SplitR (s : ByteArray) (w : World) (e : Ending) (w' : World) : Prop :=
  (∃ (l : List ByteArray) (a : Option Addr) (cap : Nat), l.map bts = (splitP (bts s)).1 ∧ e = .returned (.tuple #[.slice a l.length cap, .int .i64 (splitP (bts s)).2]) ∧ l.length ≤ cap ∧ (a = none → cap = 0) ∧ NewS w' w.heap.size a (strs l)) ∧ Below w.heap.size w w'
theorem split_none {s : ByteArray} {w w' : World} {z : Int} (h : splitP (bts s) = ([], z)) (hb : Below w.heap.size w w') : SplitR s w (.returned (.tuple #[.slice none 0 0, .int .i64 z])) w' :=
  ⟨⟨[], none, 0, by rw [h]; rfl, by rw [h]; rfl, Nat.le_refl _, fun _ => rfl, .inl rfl⟩, hb⟩

theorem pre_yes {s : ByteArray} {r : List UInt8} (h : bts s = 47 :: r) : Lib.hasPrefix s.data.toList [47] = true ∧ bts ⟨(Lib.trimPrefix s.data.toList [47]).toArray⟩ = r := by
  have e : s.data.toList = 47 :: r := h
  rw [e]
  refine ⟨by simp [Lib.hasPrefix], ?_⟩
  show (Lib.trimPrefix (47 :: r) [47]).toArray.toList = r
  simp [Lib.trimPrefix, Lib.hasPrefix]
theorem pre_no {s : ByteArray} (h : ∀ r, bts s ≠ 47 :: r) : Lib.hasPrefix s.data.toList [47] = false ∧ (256 < (bts s).length ∨ splitP (bts s) = ([], 130)) := by
  have e : s.data.toList = bts s := rfl
  rw [e]
  cases hb : bts s with
  | nil => exact ⟨rfl, .inr rfl⟩
  | cons c r =>
    rw [hb] at h
    have hc : ¬ c = 47 := fun e => h r (by rw [e])
    have hc2 : ((47 : UInt8) == c) = false := by rw [beq_eq_false_iff_ne]; exact fun e => hc e.symm
    refine ⟨by simp [Lib.hasPrefix, List.isPrefixOf, hc2], ?_⟩
    by_cases hl : 256 < (c :: r).length
    · exact .inl hl
    · right
      unfold splitP
      rw [if_neg hl]
      simp only [hc, if_false]

set_option maxHeartbeats 1000000 in
theorem csplit_any (s : ByteArray) (w : World) : Calls Tryd.prog 9 #[.string s] w (SplitR s w) := by
  have B0 : Below w.heap.size w w := Below.refl _ _
  by_cases h1 : 256 < s.size
  · have h1' : (256 : Int) < (s.size : Int) := by omega
    have HR := Lib.hid (splitP_long (p := bts s) (by rw [bts_length]; exact h1))
    clear h1
    go_enter Tryd.func9, Tryd.ntmps9
    go_wp2_with fail
    go_ret2
    exact split_none HR.out B0
  have h1' : ¬ (256 : Int) < (s.size : Int) := by omega
  have hcp := Tryd.strings_CutPrefix s ⟨#[47]⟩ w
  rw [show (⟨#[47]⟩ : ByteArray).data.toList = [47] from rfl] at hcp
  by_cases hx : ∃ r, bts s = 47 :: r
  · obtain ⟨r, hr⟩ := hx
    obtain ⟨p1, p2⟩ := pre_yes hr
    rw [p1] at hcp
    generalize (⟨(Lib.trimPrefix s.data.toList [47]).toArray⟩ : ByteArray) = T at *
    have hTs : T.size ≤ 256 := by
      rw [← bts_length T, p2]
      have := congrArg List.length hr
      rw [bts_length, List.length_cons] at this
      omega
    have HCP := Lib.hid hcp
    have he := emp_iff T
    have hsl : ¬ 256 < (bts s).length := by rw [bts_length]; exact h1
    clear p1 hcp h1
    by_cases hT : T.size = 0
    · rw [decide_eq_true hT] at he
      have HR := Lib.hid (show splitP (bts s) = ([], 0) from by
        have : r = [] := by rw [← p2]; exact List.length_eq_zero_iff.1 (by rw [bts_length]; exact hT)
        rw [hr, this]; rfl)
      clear hT hr p2 hTs hsl
      go_enter Tryd.func9, Tryd.ntmps9
      go_wp2_with fail
      refine HCP.out.mono ?_
      rintro e w1 ⟨rfl, hww⟩
      obtain rfl := hww.symm
      clear hww
      go_wp2_with fail
      go_ret2
      exact split_none HR.out B0
    rw [decide_eq_false hT] at he
    have HSp := Lib.hid (ssplit_any T w (by omega))
    have HRR := Lib.hid (show splitP (bts s) = if (pieces (bts T)).all nmOk then (if 16 < (pieces (bts T)).length then ([], 3) else (pieces (bts T), 0)) else ([], 130) from by
      have hr0 : ¬ r = [] := by
        intro e
        rw [e] at p2
        have := congrArg List.length p2
        rw [bts_length] at this
        exact hT (by simpa using this)
      unfold splitP
      rw [if_neg hsl, hr, p2]
      simp only [if_true, hr0, if_false])
    have hcT : (pieces (bts T)).length ≤ 257 := by
      rw [pieces_len]
      have : (bts T).count 47 ≤ (bts T).length := List.count_le_length
      rw [bts_length] at this
      omega
    clear hT hr p2 hTs hsl
    go_enter Tryd.func9, Tryd.ntmps9
    go_wp2_with fail
    refine HCP.out.mono ?_
    rintro e w1 ⟨rfl, hww⟩
    obtain rfl := hww.symm
    clear hww HCP
    go_wp2_with fail
    refine HSp.out.mono ?_
    rintro e w2 ⟨⟨l, g, q1, rfl, q2, q3⟩, hb2⟩
    have B2 := hb2
    have hpl : l.length = (pieces (bts T)).length := by rw [q1]; simp
    have hall : (pieces (bts T)).all nmOk = l.all fun s => nmOk (bts s) := by rw [q1, List.all_map]; rfl
    have hll : l.length ≤ 257 := by omega
    rw [hall, ← hpl] at HRR
    have HRow := Lib.hid (And.intro q1 q3)
    have HCO := Lib.hid (contains_odd (some ⟨g, 0, none⟩) l.length l w2 (.inr ⟨g, 0, rfl, valAt_row q3⟩) (by omega))
    clear hpl hall hcT q1 q3 hb2 HSp
    cases ho : (l.all fun s => nmOk (bts s)) with
    | false =>
      rw [ho] at HRR HCO
      have HR := Lib.hid (show splitP (bts s) = ([], 130) from HRR.out)
      clear ho HRR
      go_wp2_with fail
      refine HCO.out.mono ?_
      rintro e w3 ⟨rfl, hb3⟩
      have B3 := below_chain B2 hb3 B2.size
      go_wp2_with fail
      go_ret2
      exact split_none HR.out B3
    | true =>
      rw [ho] at HRR HCO
      clear ho
      by_cases h16 : 16 < l.length
      · have h16' : (16 : Int) < (l.length : Int) := by omega
        have HR := Lib.hid (show splitP (bts s) = ([], 3) from by rw [HRR.out]; simp only [if_true, if_pos h16])
        clear HRR h16
        go_wp2_with fail
        refine HCO.out.mono ?_
        rintro e w3 ⟨rfl, hb3⟩
        have B3 := below_chain B2 hb3 B2.size
        go_wp2_with fail
        go_ret2
        exact split_none HR.out B3
      · have h16' : ¬ (16 : Int) < (l.length : Int) := by omega
        have HR := Lib.hid (show splitP (bts s) = (pieces (bts T), 0) from by rw [HRR.out]; simp only [if_true, if_neg h16])
        clear HRR h16
        go_wp2_with fail
        refine HCO.out.mono ?_
        rintro e w3 ⟨rfl, hb3⟩
        have B3 := below_chain B2 hb3 B2.size
        have HNew := Lib.hid (show NewS w3 w.heap.size (some ⟨g, 0, none⟩) (strs l) from .inr ⟨g, rfl, q2, HRow.out.2.below hb3 HRow.out.2.lt⟩)
        go_wp2_with fail
        go_ret2
        exact ⟨⟨l, some ⟨g, 0, none⟩, l.length, by rw [HR.out]; exact HRow.out.1.symm, by rw [HR.out]; rfl, Nat.le_refl _, (fun h => by cases h), HNew.out⟩, B3⟩
  · have hx2 : ∀ r, bts s ≠ 47 :: r := fun r h => hx ⟨r, h⟩
    obtain ⟨p1, p2⟩ := pre_no hx2
    rw [p1] at hcp
    have HCP := Lib.hid hcp
    have HR := Lib.hid (show splitP (bts s) = ([], 130) from by
      rcases p2 with h | h
      · rw [bts_length] at h; exact absurd h h1
      · exact h)
    generalize (⟨(Lib.trimPrefix s.data.toList [47]).toArray⟩ : ByteArray) = T at *
    clear hx hx2 p1 p2 hcp h1
    go_enter Tryd.func9, Tryd.ntmps9
    go_wp2_with fail
    refine HCP.out.mono ?_
    rintro e w1 ⟨rfl, hww⟩
    obtain rfl := hww.symm
    clear hww
    go_wp2_with fail
    go_ret2
    exact split_none HR.out B0

end Go.Proofs.YtlhkfpenfbakkaaDoor
