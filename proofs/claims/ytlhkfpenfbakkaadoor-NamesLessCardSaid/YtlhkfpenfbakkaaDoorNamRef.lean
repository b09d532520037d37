/- Walks: names and paths by the document: Name, Check, Join. -/
import Derived.Test.YtlhkfpenfbakkaaDoorNamSplit
set_option linter.unusedVariables false
set_option linter.unusedSimpArgs false
set_option maxRecDepth 100000
namespace Go.Proofs.YtlhkfpenfbakkaaDoor
open Go.RowKit Go.Joins

theorem bts_drop {s : ByteArray} {k : Nat} (h : k < s.size) : (bts s).drop k = (s[k]'h) :: (bts s).drop (k + 1) := by
  have hl : k < (bts s).length := by rw [bts_length]; exact h
  rw [List.drop_eq_getElem_cons hl]
  congr 1
theorem nm_bad_at {s : ByteArray} {k : Nat} (h : k < s.size) (hb : (s[k]'h) = 0 ∨ (s[k]'h) = 47) : nmOk (bts s) = false := by
  rw [nmOk_bad]
  have hm : (s[k]'h) ∈ bts s := by
    have := bts_drop h
    have h2 : (s[k]'h) ∈ (bts s).drop k := by rw [this]; simp
    exact List.mem_of_mem_drop h2
  have : badP (bts s) = true := by
    rw [badP, List.any_eq_true]
    refine ⟨_, hm, ?_⟩
    rcases hb with e | e <;> rw [e] <;> decide
  rw [this]; simp
theorem nm_good {s : ByteArray} (h1 : 1 ≤ s.size) (h2 : s.size ≤ 32) (h : ∀ k (hk : k < s.size), (s[k]'hk) ≠ 0 ∧ (s[k]'hk) ≠ 47) : nmOk (bts s) = true := by
  rw [nmOk_bad, bts_length, decide_eq_true h1, decide_eq_true h2]
  have : badP (bts s) = false := by
    rw [badP, List.any_eq_false]
    intro x hx
    obtain ⟨k, hk, rfl⟩ := List.getElem_of_mem hx
    have hk' : k < s.size := by rw [← bts_length]; exact hk
    have := h k hk'
    have e : (bts s)[k] = s[k]'hk' := rfl
    rw [e]
    simp [this.1, this.2]
  rw [this]; rfl

theorem rname_any (s : ByteArray) (w : World) : Calls Tryd.prog 22 #[.string s] w fun e w' => e = .returned (.bool (nmOk (bts s))) ∧ w = w' := by
  by_cases h1 : s.size < 1
  · have h1' : (s.size : Int) < 1 := by omega
    have HN := Lib.hid (show nmOk (bts s) = false from by rw [nmOk_bad, bts_length, decide_eq_false (by omega)]; rfl)
    clear h1
    go_enter Tryd.func22, Tryd.ntmps22
    go_wp2_with fail
    go_ret
    rw [HN.out]
    exact ⟨rfl, rfl⟩
  have h1' : ¬ (s.size : Int) < 1 := by omega
  by_cases h2 : 32 < s.size
  · have h2' : (32 : Int) < (s.size : Int) := by omega
    have HN := Lib.hid (show nmOk (bts s) = false from by rw [nmOk_bad, bts_length, decide_eq_false (show ¬ s.size ≤ 32 by omega)]; simp)
    clear h1 h2
    go_enter Tryd.func22, Tryd.ntmps22
    go_wp2_with fail
    go_ret
    rw [HN.out]
    exact ⟨rfl, rfl⟩
  have h2' : ¬ (32 : Int) < (s.size : Int) := by omega
  have HL := Lib.hid (And.intro h1 h2)
  clear h1 h2
  go_enter Tryd.func22, Tryd.ntmps22
  go_wp2_with fail
  go_loopw [3] (fun jj wr => ∃ k : Nat, k ≤ s.size ∧ jj = .int .i64 k ∧ Hid (∀ j (hj : j < s.size), j < k → (s[j]'hj) ≠ 0 ∧ (s[j]'hj) ≠ 47) ∧ w = wr) (fun jj _ => s.size - (intOf jj).toNat)
  case atStart => exact ⟨0, by omega, rfl, fun j hj h => by omega, rfl⟩
  case round =>
    obtain ⟨k, hk, rfl, HA, rfl⟩ := hrel
    by_cases hlt : k < s.size
    · have p0 : (0 : Int) ≤ (k : Int) := by omega
      have p1 : (k : Int) < (s.size : Int) := by omega
      obtain ⟨c, hc⟩ : ∃ c : UInt8, s[k]'hlt = c := ⟨_, rfl⟩
      have hidx : ∀ w, (Instr.index 9 (.string s) (.int .i64 (k : Int))).run Tryd.prog w = .ok (.int .u8 (c.toNat : Int)) w := by
        intro w
        have hkk : (0 : Int) ≤ (k : Int) ∧ (k : Int) < (s.size : Int) := by omega
        have e1 : ((k : Int)).toNat = k := by omega
        simp [Instr.index, go_sem, Tryd.underlying9, e1, hlt, hc, asIntOf]
      by_cases h0 : c = 0
      · have q0 : ((c.toNat : Int) == 0) = true := by rw [h0]; rfl
        have HN := Lib.hid (nm_bad_at hlt (.inl (hc.trans h0)))
        clear hc h0
        go_wp2_with fail
        go_ret
        rw [HN.out]
        exact ⟨rfl, rfl⟩
      have q0 : ((c.toNat : Int) == 0) = false := by
        rw [beq_eq_false_iff_ne]
        intro e
        exact h0 (UInt8.toNat_inj.1 (by show c.toNat = 0; omega))
      by_cases h47 : c = 47
      · have q1 : ((c.toNat : Int) == 47) = true := by rw [h47]; rfl
        have HN := Lib.hid (nm_bad_at hlt (.inr (hc.trans h47)))
        clear hc h0 h47
        go_wp2_with fail
        go_ret
        rw [HN.out]
        exact ⟨rfl, rfl⟩
      have q1 : ((c.toNat : Int) == 47) = false := by
        rw [beq_eq_false_iff_ne]
        intro e
        exact h47 (UInt8.toNat_inj.1 (by show c.toNat = 47; omega))
      have HA2 : Hid (∀ j (hj : j < s.size), j < k + 1 → (s[j]'hj) ≠ 0 ∧ (s[j]'hj) ≠ 47) := by
        intro j hj hjk
        by_cases e : j < k
        · exact HA.out j hj e
        · obtain rfl : j = k := by omega
          rw [hc]; exact ⟨h0, h47⟩
      clear hc h0 h47
      go_wp2_with fail
      go_roundw
      case rel => exact ⟨k + 1, by omega, by go_num, HA2, by first | rfl | trivial⟩
      case measure => simp [intOf]; omega
    · obtain rfl : k = s.size := by omega
      have hnl : ¬ ((s.size : Int) < (s.size : Int)) := by omega
      have HN := Lib.hid (nm_good (s := s) (by have := HL.out.1; omega) (by have := HL.out.2; omega) (fun j hj => HA.out j hj hj))
      go_wp2_with fail
      go_ret
      rw [HN.out]
      exact ⟨rfl, rfl⟩


theorem rcheck_any (s : ByteArray) (w : World) : Calls Tryd.prog 12 #[.string s] w fun e w' => e = .returned (.int .i64 (checkP (bts s))) ∧ Below w.heap.size w w' := by
  have HO := Lib.hid (rname_any s w)
  have kk : s.toList = bts s := Lib.toList_data s
  have HC := Lib.hid (show checkP (bts s) = if nmOk (bts s) = true ∧ bts s ≠ [46] ∧ bts s ≠ [46, 46] then 0 else 130 from rfl)
  cases hn : nmOk (bts s) with
  | false =>
    rw [hn] at HO
    rw [hn] at HC
    have HC2 := Lib.hid (show checkP (bts s) = 130 from by rw [HC.out]; simp)
    clear kk hn HC
    go_enter Tryd.func12, Tryd.ntmps12
    go_wp2_with fail
    refine HO.out.mono ?_
    rintro e w1 ⟨rfl, hww⟩
    have hb1 : Below w.heap.size w w1 := by rw [← hww]; exact Below.refl _ _
    clear hww
    go_wp2_with fail
    go_ret
    exact ⟨by rw [HC2.out]; rfl, hb1⟩
  | true =>
    rw [hn] at HO
    rw [hn] at HC
    by_cases c1 : bts s = [46]
    · have HC2 := Lib.hid (show checkP (bts s) = 130 from by rw [HC.out, if_neg (fun h => h.2.1 c1)])
      have p1 : s.toList = [46] := kk.trans c1
      clear kk hn HC c1
      go_enter Tryd.func12, Tryd.ntmps12
      go_wp2_with fail
      refine HO.out.mono ?_
      rintro e w1 ⟨rfl, hww⟩
      have hb1 : Below w.heap.size w w1 := by rw [← hww]; exact Below.refl _ _
      clear hww
      go_wp2_with fail
      go_ret
      exact ⟨by rw [HC2.out]; rfl, hb1⟩
    have p1 : ¬ s.toList = [46] := fun h => c1 (kk.symm.trans h)
    have b1 : (s.toList == [46]) = false := by simpa using p1
    by_cases c2 : bts s = [46, 46]
    · have HC2 := Lib.hid (show checkP (bts s) = 130 from by rw [HC.out, if_neg (fun h => h.2.2 c2)])
      have p2 : s.toList = [46, 46] := kk.trans c2
      clear kk hn HC c1 c2
      go_enter Tryd.func12, Tryd.ntmps12
      go_wp2_with fail
      refine HO.out.mono ?_
      rintro e w1 ⟨rfl, hww⟩
      have hb1 : Below w.heap.size w w1 := by rw [← hww]; exact Below.refl _ _
      clear hww
      go_wp2_with fail
      go_ret
      exact ⟨by rw [HC2.out]; rfl, hb1⟩
    have p2 : ¬ s.toList = [46, 46] := fun h => c2 (kk.symm.trans h)
    have b2 : (s.toList == [46, 46]) = false := by simpa using p2
    have HC2 := Lib.hid (show checkP (bts s) = 0 from by rw [HC.out, if_pos ⟨rfl, c1, c2⟩])
    clear kk hn HC c1 c2
    go_enter Tryd.func12, Tryd.ntmps12
    go_wp2_with fail
    refine HO.out.mono ?_
    rintro e w1 ⟨rfl, hww⟩
    have hb1 : Below w.heap.size w w1 := by rw [← hww]; exact Below.refl _ _
    clear hww
    go_wp2_with fail
    go_ret
    exact ⟨by rw [HC2.out]; rfl, hb1⟩


/-- a text of bytes -/
def tx (l : List UInt8) : ByteArray := ⟨l.toArray⟩
theorem tx_size (l : List UInt8) : (tx l).size = l.length := by simp [tx, ByteArray.size]
theorem tx_bts (l : List UInt8) : bts (tx l) = l := by simp [tx]
/-- what Join answers -/
def JoinR (l : List ByteArray) (w : World) (e : Ending) (w' : World) : Prop :=
  e = .returned (.tuple #[.string (tx (joinP (l.map bts)).1), .int .i64 (joinP (l.map bts)).2]) ∧ Below w.heap.size w w'
theorem join_bad {l : List ByteArray} {w w' : World} {z : Int} (h : joinP (l.map bts) = ([], z)) (hb : Below w.heap.size w w') : JoinR l w (.returned (.tuple #[.string ⟨#[]⟩, .int .i64 z])) w' := by
  refine ⟨?_, hb⟩
  rw [h]; rfl
theorem flat_one (x : List UInt8) : flat [x] = 47 :: x := by simp [flat]
theorem joinP_no {l : List ByteArray} (h : (l.all fun s => nmOk (bts s)) = false) : joinP (l.map bts) = ([], 130) := by
  rw [joinP, if_neg]
  rw [List.all_map]
  intro h2
  rw [show (l.all (nmOk ∘ bts)) = (l.all fun s => nmOk (bts s)) from rfl, h] at h2
  cases h2
theorem joinP_many {l : List ByteArray} (h : (l.all fun s => nmOk (bts s)) = true) (h2 : 16 < l.length ∨ 256 < (pathS (l.map bts)).length) : joinP (l.map bts) = ([], 3) := by
  rw [joinP, if_pos (by rw [List.all_map]; exact h), if_pos (by rw [List.length_map]; exact h2)]
theorem joinP_yes {l : List ByteArray} (h : (l.all fun s => nmOk (bts s)) = true) (h2 : ¬ 16 < l.length) (h3 : ¬ 256 < (pathS (l.map bts)).length) : joinP (l.map bts) = (pathS (l.map bts), 0) := by
  rw [joinP, if_pos (by rw [List.all_map]; exact h), if_neg (by rw [List.length_map]; omega)]
theorem flat_len {xs : List (List UInt8)} (h : ∀ x ∈ xs, nmOk x = true) : (flat xs).length ≤ 33 * xs.length := by
  induction xs with
  | nil => simp [flat]
  | cons x xs ih =>
    have h1 := ih fun y hy => h y (List.mem_cons_of_mem _ hy)
    have h2 := (nmOk_iff.1 (h x (by simp))).2.1
    rw [flat, List.length_cons, List.length_append, List.length_cons]
    omega
theorem flat_take {l : List ByteArray} {k : Nat} {x : ByteArray} (hx : l[k]? = some x) : flat ((l.take (k + 1)).map bts) = flat ((l.take k).map bts) ++ (47 :: bts x) := by
  obtain ⟨hk, e⟩ := List.getElem?_eq_some_iff.1 hx
  rw [List.take_succ_eq_append_getElem hk, e, List.map_append, flat_append, List.map_cons, List.map_nil, flat_one]

set_option maxHeartbeats 4000000 in
theorem rjoin_any (a : Option Addr) (cap : Nat) (l : List ByteArray) (w : World) (hV : ValS w a (strs l)) (hl : l.length ≤ 1000000) : Calls Tryd.prog 17 #[.slice a l.length cap] w (JoinR l w) := by
  have HV := Lib.hid hV
  have hl' : (l.length : Int) ≤ 1000000 := by omega
  clear hV
  go_enter Tryd.func17, Tryd.ntmps17
  go_wp2_with fail
  go_loopw [4] (fun jj wr => ∃ k : Nat, k ≤ l.length ∧ jj = .int .i64 k ∧ Hid (∀ j (x : ByteArray), j < k → l[j]? = some x → nmOk (bts x) = true) ∧ w = wr) (fun jj _ => l.length - (intOf jj).toNat)
  case atStart => exact ⟨0, by omega, rfl, fun j x h _ => by omega, rfl⟩
  case round =>
    obtain ⟨k, hk, rfl, HA, hww⟩ := hrel
    obtain rfl := hww
    by_cases hlt : k < l.length
    · obtain ⟨x, hx⟩ : ∃ x, l[k]? = some x := ⟨_, List.getElem?_eq_getElem hlt⟩
      obtain ⟨P, o, rfl, hP, d0⟩ := str_cell HV.out hx
      have i1 : (k : Int) < (l.length : Int) := by omega
      have i2 : (0 : Int) ≤ (k : Int) := by omega
      have HN := Lib.hid (rname_any x w)
      have HX := Lib.hid hx
      clear hx
      cases hn : nmOk (bts x) with
      | false =>
        rw [hn] at HN
        have HE := Lib.hid (joinP_no (l := l) (by rw [List.all_eq_false]; exact ⟨x, List.mem_of_getElem? HX.out, by rw [hn]; simp⟩))
        clear hn
        go_wp2_with fail
        refine HN.out.mono ?_
        rintro e w1 ⟨rfl, hww⟩
        obtain rfl := hww
        go_wp2_with fail
        go_ret2
        exact join_bad HE.out (Below.refl _ _)
      | true =>
        rw [hn] at HN
        have HA2 : Hid (∀ j (y : ByteArray), j < k + 1 → l[j]? = some y → nmOk (bts y) = true) := by
          intro j y hj hy
          by_cases e : j < k
          · exact HA.out j y e hy
          · obtain rfl : j = k := by omega
            rw [HX.out] at hy
            injection hy with hy
            subst hy
            exact hn
        clear hn
        go_wp2_with fail
        refine HN.out.mono ?_
        rintro e w1 ⟨rfl, hww⟩
        obtain rfl := hww
        go_wp2_with fail
        go_roundw
        case rel => exact ⟨k + 1, by omega, by go_num, HA2, by first | rfl | trivial⟩
        case measure => simp [intOf]; omega
    · obtain rfl : k = l.length := by omega
      have hnl : ¬ ((l.length : Int) < (l.length : Int)) := by omega
      have hall : (l.all fun s => nmOk (bts s)) = true := by
        rw [List.all_eq_true]
        intro x hx
        obtain ⟨j, hj, rfl⟩ := List.getElem_of_mem hx
        exact HA.out j _ hj (List.getElem?_eq_getElem hj)
      have HN := Lib.hid hall
      clear hall HA
      by_cases h16 : 16 < l.length
      · have h16' : (16 : Int) < (l.length : Int) := by omega
        have HE := Lib.hid (joinP_many HN.out (.inl h16))
        clear h16
        go_wp2_with fail
        go_ret2
        exact join_bad HE.out (Below.refl _ _)
      have h16' : ¬ (16 : Int) < (l.length : Int) := by omega
      have HFl := Lib.hid (fun k => show (flat ((l.take k).map bts)).length ≤ 33 * 16 from by
        have := flat_len (xs := (l.take k).map bts) (by
          intro x hx
          rw [List.mem_map] at hx
          obtain ⟨y, hy, rfl⟩ := hx
          exact List.all_eq_true.1 HN.out y (List.mem_of_mem_take hy))
        rw [List.length_map] at this
        have h8 : (l.take k).length ≤ 16 := Nat.le_trans (List.length_take_le' k l) (by omega)
        omega)
      go_wp2_with fail
      go_loopw [5, 6] (fun ss jj wr => ∃ k : Nat, k ≤ l.length ∧ jj = .int .i64 k ∧ ss = .string (tx (flat ((l.take k).map bts))) ∧ w = wr) (fun _ jj _ => l.length - (intOf jj).toNat)
      case atStart => exact ⟨0, by omega, rfl, rfl, rfl⟩
      case round =>
        obtain ⟨k, hk, rfl, rfl, hww⟩ := hrel
        obtain rfl := hww
        by_cases hlt : k < l.length
        · obtain ⟨x, hx⟩ : ∃ x, l[k]? = some x := ⟨_, List.getElem?_eq_getElem hlt⟩
          obtain ⟨P, o, rfl, hP, d0⟩ := str_cell HV.out hx
          have i1 : (k : Int) < (l.length : Int) := by omega
          have i2 : (0 : Int) ≤ (k : Int) := by omega
          have HT := Lib.hid (show tx (flat ((l.take k).map bts)) ++ ⟨#[47]⟩ ++ x = tx (flat ((l.take (k + 1)).map bts)) from by
            rw [flat_take hx]
            apply bts_ext
            simp [bts, tx])
          have hxs := (nmOk_iff.1 (List.all_eq_true.1 HN.out x (List.mem_of_getElem? hx))).2.1
          rw [bts_length] at hxs
          have hfk := HFl.out k
          rw [← tx_size] at hfk
          generalize tx (flat ((l.take k).map bts)) = T at *
          have hm1 : ¬ maxLen < T.size + (⟨#[47]⟩ : ByteArray).size := by
            have : (⟨#[47]⟩ : ByteArray).size = 1 := rfl
            rw [this]; unfold maxLen; omega
          have hm2 : ¬ maxLen < (T ++ ⟨#[47]⟩).size + x.size := by
            have : (⟨#[47]⟩ : ByteArray).size = 1 := rfl
            rw [ByteArray.size_append, this]; unfold maxLen; omega
          have hm3 : ¬ maxLen < T.size + 1 + x.size := by unfold maxLen; omega
          have hm4 : ¬ maxLen < T.size + 1 := by unfold maxLen; omega
          clear hx hxs hfk
          go_wp2_with fail
          go_roundw
          case rel => exact ⟨k + 1, by omega, by go_num, by rw [← HT.out], by first | rfl | trivial⟩
          case measure => simp [intOf]; omega
        · obtain rfl : k = l.length := by omega
          rw [List.take_length]
          have hnl2 : ¬ ((l.length : Int) < (l.length : Int)) := by omega
          by_cases he : l = []
          · subst he
            have HR := Lib.hid (show joinP (([] : List ByteArray).map bts) = ([47], 0) from rfl)
            rw [show tx (flat (([] : List ByteArray).map bts)) = ⟨#[]⟩ from rfl]
            go_wp2_with fail
            go_ret2
            exact ⟨by rw [HR.out]; rfl, Below.refl _ _⟩
          · have hps : pathS (l.map bts) = flat (l.map bts) := by rw [pathS, if_neg (by simpa using he)]
            have hsz : (tx (flat (l.map bts))).size = (flat (l.map bts)).length := tx_size _
            have hem := emp_iff (tx (flat (l.map bts)))
            have hne : ¬ (tx (flat (l.map bts))).size = 0 := by
              rw [hsz]
              cases l with
              | nil => exact absurd rfl he
              | cons x l => simp [flat]
            rw [decide_eq_false hne] at hem
            by_cases h256 : 256 < (flat (l.map bts)).length
            · have hT : (256 : Int) < ((tx (flat (l.map bts))).size : Int) := by omega
              have HE := Lib.hid (joinP_many HN.out (.inr (by rw [hps]; exact h256)))
              clear hps hsz he hne h256
              generalize tx (flat (l.map bts)) = T at *
              go_wp2_with fail
              go_ret2
              exact join_bad HE.out (Below.refl _ _)
            · have hT : ¬ (256 : Int) < ((tx (flat (l.map bts))).size : Int) := by omega
              have HE := Lib.hid (joinP_yes HN.out h16 (by rw [hps]; exact h256))
              rw [hps] at HE
              have HE2 : Hid (tx (joinP (l.map bts)).1 = tx (flat (l.map bts)) ∧ (joinP (l.map bts)).2 = 0) := ⟨by rw [HE.out], by rw [HE.out]⟩
              clear hps hsz he hne h256 HE
              generalize tx (flat (l.map bts)) = T at *
              go_wp2_with fail
              go_ret2
              exact ⟨by rw [HE2.out.1, HE2.out.2]; rfl, Below.refl _ _⟩

end Go.Proofs.YtlhkfpenfbakkaaDoor
