/- Walks: blocks of entries by the document: Parse, Find, Room, Insert, Remove. -/
import Derived.Test.YtlhkfpenfbakkaaDirRef2
set_option linter.unusedVariables false
set_option linter.unusedSimpArgs false
set_option maxRecDepth 100000
namespace Go.Proofs.Ytlhkfpenfbakkaa
open Go.RowKit Go.Joins

set_option maxHeartbeats 8000000 in
theorem rparse_any (s : ByteArray) (w : World) (hs : s.size ≤ 100000) : Calls Try.prog 15 #[.string s] w (ParseP s w) := by
  have hs1 : (s.size : Int) ≤ 100000 := by omega
  obtain ⟨i0, hi, hz0, hz1, hz2⟩ := info_parts info_de
  have HI := Lib.hid (And.intro hi (And.intro hz0 (And.intro hz1 hz2)))
  have H128 := Lib.hid hs
  clear hi hz0 hz1 hz2
  go_enter Try.func15, Try.ntmps15
  go_wp2_with fail
  go_loopw [4, 5] (fun ll aa wr => ∃ (k : Nat) (L : List De) (a : Option Addr) (cap : Nat), k ≤ s.size ∧ aa = .int .i64 k ∧ ll = .slice a L.length cap ∧ Hid (wr.ownsRow w.heap.size 25 2 (.slice a L.length cap) L.length (L.flatMap De.cells)) ∧ Hid (ParseAt s k L ∧ L.length ≤ k) ∧ Below w.heap.size w wr) (fun _ aa _ => s.size - (intOf aa).toNat)
  case atStart => exact ⟨0, [], none, 0, by omega, rfl, rfl, World.ownsRow_nil _ _ _ _, ⟨parse_at0 s, by simp⟩, Below.refl _ _⟩
  case round =>
    obtain ⟨k, L, a, cap, hk, rfl, rfl, HK, HL, B⟩ := hrel
    by_cases hlt : k < s.size
    · have p0 : (0 : Int) ≤ (k : Int) := by omega
      have p1 : (k : Int) < (s.size : Int) := by omega
      have hks : k < s.size := hlt
      obtain ⟨c, hc⟩ : ∃ c : UInt8, s[k]'hks = c := ⟨_, rfl⟩
      have hidx : ∀ w, (Instr.index 9 (.string s) (.int .i64 (k : Int))).run Try.prog w = .ok (.int .u8 (c.toNat : Int)) w := by
        intro w
        have hkk : (0 : Int) ≤ (k : Int) ∧ (k : Int) < (s.size : Int) := by omega
        have e1 : ((k : Int)).toNat = k := by omega
        simp [Instr.index, go_sem, Try.underlying9, e1, hks, hc, asIntOf]
      by_cases h0 : c = 0
      · have q0 : ((c.toNat : Int) != 0) = false := by rw [h0]; rfl
        have hstop : (bts s).drop k = [] ∨ ∃ t, (bts s).drop k = 0 :: t := .inr ⟨_, by rw [bts_drop hks, hc, h0]⟩
        have HST := Lib.hid hstop
        clear hc hks h0 hstop
        obtain ⟨a', cap', hv, hnew, _, hcap⟩ := own_newd HK.out
        injection hv with hv1 _ hv3
        subst hv1 hv3
        have HP := Lib.hid (rpack_any a cap L wr hnew.vals (by have := HL.out.2; have := H128.out; omega))
        have HE := Lib.hid (HL.out.1.stop HST.out)
        have HCap := Lib.hid hcap
        clear hnew hcap
        by_cases hpe : packE L = 0
        · have q1 : (packE L != 0) = false := by rw [bne_eq_false_iff_eq]; exact hpe
          by_cases hpb : packB L = s
          · have q2 : ((packB L).toList == s.toList) = true := by rw [hpb]; exact beq_self_eq_true _
            have HR := Lib.hid (show parseP s = some L from by rw [HE.out, if_pos ⟨hpe, hpb⟩])
            unfold PackP at HP
            clear hpe hpb
            generalize packE L = pe at *
            generalize packB L = pb at *
            go_wp2_with fail
            refine HP.out.mono ?_
            rintro e w9 ⟨rfl, hb9⟩
            have B9 := below_chain B hb9 B.size
            have HK9 := Lib.hid (HK.out.kept (row := none) ⟨hb9.os, hb9.tape, hb9.output, hb9.size, fun k hk _ => hb9.block k hk⟩ (by cases (Value.slice a L.length cap).ownBlock <;> simp))
            go_wp2_with fail
            go_ret2
            exact ⟨.inl ⟨L, a, cap, HR.out, rfl, HCap.out, HK9.out⟩, B9⟩
          · have q2 : ((packB L).toList == s.toList) = false := by
              rw [str_eq]
              refine decide_eq_false fun e => hpb ?_
              exact ByteArray.ext (Array.toList_inj.1 e)
            have HR := Lib.hid (show parseP s = none from by rw [HE.out, if_neg (fun h => hpb h.2)])
            unfold PackP at HP
            clear hpe hpb
            generalize packE L = pe at *
            generalize packB L = pb at *
            go_wp2_with fail
            refine HP.out.mono ?_
            rintro e w9 ⟨rfl, hb9⟩
            have B9 := below_chain B hb9 B.size
            go_wp2_with fail
            go_ret2
            exact ⟨.inr ⟨HR.out, rfl⟩, B9⟩
        · have q1 : (packE L != 0) = true := by rw [bne_iff_ne]; exact hpe
          have HR := Lib.hid (show parseP s = none from by rw [HE.out, if_neg (fun h => hpe h.1)])
          unfold PackP at HP
          clear hpe
          generalize packE L = pe at *
          generalize packB L = pb at *
          go_wp2_with fail
          refine HP.out.mono ?_
          rintro e w9 ⟨rfl, hb9⟩
          have B9 := below_chain B hb9 B.size
          go_wp2_with fail
          go_ret2
          exact ⟨.inr ⟨HR.out, rfl⟩, B9⟩
      · have q0 : ((c.toNat : Int) != 0) = true := by
          rw [bne_iff_ne]
          intro e
          refine h0 (UInt8.toNat_inj.1 ?_)
          show c.toNat = 0
          omega
        have hc256 : (c.toNat : Int) ≤ 255 := by have := c.toNat_lt; omega
        have hcu : (c.toNat : Int) < 256 := by omega
        have h0' : s[k]'hks ≠ 0 := by rw [hc]; exact h0
        have hgi := rgetint_any s ((k : Int) + 1) 4 wr (by have := H128.out; unfold maxLen; omega)
        by_cases hfit : k + 5 + c.toNat ≤ s.size
        · obtain ⟨g1, g2⟩ := get4 (s := s) (k := k) (by omega)
          rw [g1, g2] at hgi
          have hst := HL.out.1.step hks h0' (by rw [hc]; exact hfit)
          rw [hc] at hst
          have HST := Lib.hid hst
          have HG := Lib.hid hgi
          have j1 : ¬ (s.size : Int) < (k : Int) + 5 + (c.toNat : Int) := by omega
          have j2 : (k : Int) + 5 + (c.toNat : Int) ≤ (s.size : Int) := by omega
          have j3 : (k : Int) + 5 ≤ (k : Int) + 5 + (c.toNat : Int) := by omega
          have j4 : (0 : Int) ≤ (k : Int) + 5 := by omega
          have hLL := HL.out.2
          clear hc h0 h0' g1 g2 hst hgi hks
          generalize leVal (((bts s).drop (k + 1)).take 4) = ino at *
          have hcz : (0 : Int) ≤ (c.toNat : Int) := by omega
          have ec : ((k : Int) + 5 + (c.toNat : Int)).toNat = k + 5 + c.toNat := by omega
          go_wp2_with fail
          refine HG.out.mono ?_
          rintro e w1 ⟨rfl, rfl⟩
          have HRw := Lib.hid (row_news4 (rowAt_alloc wr #[.string (s.extract (k + 5) (k + 5 + c.toNat)), .int .i64 (ino : Nat)] 25))
          have HLL := Lib.hid (fun j hj => World.ownsRow.lt HK.out j hj)
          go_wp2_with (at_builtin; refine wpList_append_own _ rfl _ _ 22 rfl w.heap.size 25 i0 (.agg #[.string ByteArray.empty, .int .i64 0]) 2 24 Try.underlying22 HI.out.1 HI.out.2.1 HI.out.2.2.1 HI.out.2.2.2 rfl (by decide) _ L.length _ rfl (HK.out.alloc _) ⟨wr.heap.size, 0, none⟩ 1 1 [.string (s.extract (k + 5) (k + 5 + c.toNat)), .int .i64 (ino : Nat)] rfl rfl HRw.out (by intro u hu; simp at hu; rcases hu with rfl | rfl <;> rfl) (by unfold maxLen; omega) (by omega) (by have := B.size; simp; omega) ?_)
          intro v' w9 hown9 hg9 _
          obtain ⟨a9, cap9, rfl⟩ := own_form hown9
          have B9 := grown_below4 (B.alloc B.size (.cells #[.string (s.extract (k + 5) (k + 5 + c.toNat)), .int .i64 (ino : Nat)] 25)) hg9 (fun j hj => (HLL.out j hj).1) (by have := B.size; simp; omega)
          have HO9 : Hid (w9.ownsRow w.heap.size 25 2 (.slice a9 (L ++ [⟨s.extract (k + 5) (k + 5 + c.toNat), (ino : Nat)⟩] : List De).length cap9) (L ++ [⟨s.extract (k + 5) (k + 5 + c.toNat), (ino : Nat)⟩] : List De).length ((L ++ [⟨s.extract (k + 5) (k + 5 + c.toNat), (ino : Nat)⟩] : List De).flatMap De.cells)) := by
            show World.ownsRow _ _ _ _ _ _ _
            rw [List.length_append, List.flatMap_append]
            exact hown9
          have HL9 : Hid (ParseAt s (k + 5 + c.toNat) (L ++ [⟨s.extract (k + 5) (k + 5 + c.toNat), (ino : Nat)⟩]) ∧ (L ++ [⟨s.extract (k + 5) (k + 5 + c.toNat), (ino : Nat)⟩] : List De).length ≤ k + 5 + c.toNat) := ⟨HST.out, by have := HL.out.2; simp; omega⟩
          clear hown9 hg9 HRw
          go_wp2_with fail
          go_roundw
          case rel => exact ⟨k + 5 + c.toNat, _, a9, cap9, by omega, by go_num, by simp, HO9.out, HL9.out, B9⟩
          case measure => simp [intOf]; omega
        · have HR := Lib.hid (HL.out.1.cut hks h0' (by rw [hc]; omega))
          have j1 : (s.size : Int) < (k : Int) + 5 + (c.toNat : Int) := by omega
          by_cases h5 : k + 5 ≤ s.size
          · obtain ⟨g1, g2⟩ := get4 (s := s) (k := k) (by omega)
            rw [g1] at hgi
            have HG := Lib.hid hgi
            clear hc h0 h0' g1 g2 hgi hks
            go_wp2_with fail
            refine HG.out.mono ?_
            rintro e w1 ⟨rfl, rfl⟩
            go_wp2_with fail
            go_ret2
            exact ⟨.inr ⟨HR.out, rfl⟩, B⟩
          · rw [get4_no h5] at hgi
            have HG := Lib.hid hgi
            clear hc h0 h0' hgi hks
            go_wp2_with fail
            refine HG.out.mono ?_
            rintro e w1 ⟨rfl, rfl⟩
            go_wp2_with fail
            go_ret2
            exact ⟨.inr ⟨HR.out, rfl⟩, B⟩
    · obtain rfl : k = s.size := by omega
      have hnl : ¬ ((s.size : Int) < (s.size : Int)) := by omega
      have hstop : (bts s).drop s.size = [] ∨ ∃ t, (bts s).drop s.size = 0 :: t := .inl (List.drop_of_length_le (by rw [bts_length]; omega))
      have HST := Lib.hid hstop
      clear hstop
      obtain ⟨a', cap', hv, hnew, _, hcap⟩ := own_newd HK.out
      injection hv with hv1 _ hv3
      subst hv1 hv3
      have HP := Lib.hid (rpack_any a cap L wr hnew.vals (by have := HL.out.2; have := H128.out; omega))
      have HE := Lib.hid (HL.out.1.stop HST.out)
      have HCap := Lib.hid hcap
      clear hnew hcap
      by_cases hpe : packE L = 0
      · have q1 : (packE L != 0) = false := by rw [bne_eq_false_iff_eq]; exact hpe
        by_cases hpb : packB L = s
        · have q2 : ((packB L).toList == s.toList) = true := by rw [hpb]; exact beq_self_eq_true _
          have HR := Lib.hid (show parseP s = some L from by rw [HE.out, if_pos ⟨hpe, hpb⟩])
          unfold PackP at HP
          clear hpe hpb
          generalize packE L = pe at *
          generalize packB L = pb at *
          go_wp2_with fail
          refine HP.out.mono ?_
          rintro e w9 ⟨rfl, hb9⟩
          have B9 := below_chain B hb9 B.size
          have HK9 := Lib.hid (HK.out.kept (row := none) ⟨hb9.os, hb9.tape, hb9.output, hb9.size, fun k hk _ => hb9.block k hk⟩ (by cases (Value.slice a L.length cap).ownBlock <;> simp))
          go_wp2_with fail
          go_ret2
          exact ⟨.inl ⟨L, a, cap, HR.out, rfl, HCap.out, HK9.out⟩, B9⟩
        · have q2 : ((packB L).toList == s.toList) = false := by
            rw [str_eq]
            refine decide_eq_false fun e => hpb ?_
            exact ByteArray.ext (Array.toList_inj.1 e)
          have HR := Lib.hid (show parseP s = none from by rw [HE.out, if_neg (fun h => hpb h.2)])
          unfold PackP at HP
          clear hpe hpb
          generalize packE L = pe at *
          generalize packB L = pb at *
          go_wp2_with fail
          refine HP.out.mono ?_
          rintro e w9 ⟨rfl, hb9⟩
          have B9 := below_chain B hb9 B.size
          go_wp2_with fail
          go_ret2
          exact ⟨.inr ⟨HR.out, rfl⟩, B9⟩
      · have q1 : (packE L != 0) = true := by rw [bne_iff_ne]; exact hpe
        have HR := Lib.hid (show parseP s = none from by rw [HE.out, if_neg (fun h => hpe h.1)])
        unfold PackP at HP
        clear hpe
        generalize packE L = pe at *
        generalize packB L = pb at *
        go_wp2_with fail
        refine HP.out.mono ?_
        rintro e w9 ⟨rfl, hb9⟩
        have B9 := below_chain B hb9 B.size
        go_wp2_with fail
        go_ret2
        exact ⟨.inr ⟨HR.out, rfl⟩, B9⟩

theorem rparse_list (s : ByteArray) (w : World) (hs : s.size ≤ 100000) : Calls Try.prog 15 #[.string s] w fun e w' => (∃ l a cap, l = (parseP s).getD [] ∧ e = .returned (.tuple #[.slice a (List.length l) cap, .int .i64 (if (parseP s).isSome then 0 else 80)]) ∧ l.length ≤ cap ∧ l.length ≤ 1000 ∧ w'.ownsRow w.heap.size 25 2 (.slice a l.length cap) l.length (l.flatMap De.cells)) ∧ Below w.heap.size w w' := by
  refine (rparse_any s w hs).mono ?_
  rintro e w' ⟨h | ⟨h1, h2⟩, hb⟩
  · obtain ⟨l, a, cap, h1, h2, h3, h4⟩ := h
    refine ⟨⟨l, a, cap, by rw [h1]; rfl, by rw [h1]; exact h2, h3, ?_, h4⟩, hb⟩
    have := (packE_ok.1 (parseP_ok h1).1).2.2.2
    have h6 := entsB_len l
    have := len_many l
    omega
  · exact ⟨⟨[], none, 0, by rw [h1]; rfl, by rw [h1]; exact h2, Nat.le_refl _, by simp, World.ownsRow_nil _ _ _ _⟩, hb⟩

set_option maxHeartbeats 1000000 in
theorem rfind_any (s x : ByteArray) (w : World) (hs : s.size ≤ 100000) : Calls Try.prog 17 #[.string s, .string x] w fun e w' => e = .returned (.tuple #[.int .i64 (findP s x).1, .bool (findP s x).2]) ∧ Below w.heap.size w w' := by
  have HP := Lib.hid (rparse_list s w hs)
  go_enter Try.func17, Try.ntmps17
  go_wp2_with fail
  refine HP.out.mono ?_
  rintro e w1 ⟨⟨l, a, cap, hl, rfl, h1, h2, h3⟩, hb1⟩
  have HL := Lib.hid hl
  obtain ⟨a', cap', hv, hnew, _, _⟩ := own_newd h3
  injection hv with hv1 _ hv3
  subst hv1 hv3
  have HV := Lib.hid hnew.vals
  have HF : Hid (findP s x = match l.find? (deP x) with | some d => (d.ino, true) | none => (0, false)) := by
    show _ = _
    rw [findP, HL.out]
    cases List.find? (deP x) ((parseP s).getD []) <;> rfl
  clear hl h3 hnew HP HL
  generalize (if (parseP s).isSome = true then (0 : Int) else 80) = pe at *
  have B1 := hb1
  clear hb1
  have hll : (l.length : Int) ≤ 1000 := by omega
  go_wp2_with fail
  go_loopw [8] (fun jj wr => ∃ k : Nat, k ≤ l.length ∧ jj = .int .i64 k ∧ Hid (∀ j (d : De), j < k → l[j]? = some d → deP x d = false) ∧ w1 = wr) (fun jj _ => l.length - (intOf jj).toNat)
  case atStart => exact ⟨0, by omega, rfl, fun j d h _ => by omega, rfl⟩
  case round =>
    obtain ⟨k, hk, rfl, HA, rfl⟩ := hrel
    by_cases hlt : k < l.length
    · obtain ⟨d, hd⟩ : ∃ d, l[k]? = some d := ⟨_, List.getElem?_eq_getElem hlt⟩
      obtain ⟨P, o, rfl, hP, d0, d1⟩ := de_cells HV.out hd
      have i1 : (k : Int) < (l.length : Int) := by omega
      have i2 : (0 : Int) ≤ (k : Int) := by omega
      have hsx := str_eq d.nm x
      by_cases he : d.bs = bts x
      · have hsy : (d.nm.toList == x.toList) = true := by rw [hsx]; exact decide_eq_true he
        have HR := Lib.hid (show findP s x = (d.ino, true) from by
          have h9 : l.find? (deP x) = some d := by
            obtain ⟨hk', e⟩ := List.getElem?_eq_some_iff.1 hd
            rw [find_of_idx]
            have : l.findIdx? (deP x) = some k := by
              rw [List.findIdx?_eq_some_iff_getElem]
              refine ⟨hk', by rw [e]; exact deP_iff.2 he, fun j hj => ?_⟩
              have := HA.out j _ hj (List.getElem?_eq_getElem (show j < l.length by omega))
              rw [this]; simp
            rw [this]; exact hd
          rw [HF.out, h9])
        clear hsx he hd
        go_wp2_with fail
        go_ret2
        exact ⟨by rw [HR.out]; rfl, B1⟩
      · have hsy : (d.nm.toList == x.toList) = false := by rw [hsx]; exact decide_eq_false he
        have HA2 : Hid (∀ j (y : De), j < k + 1 → l[j]? = some y → deP x y = false) := by
          intro j y hj hy
          by_cases e : j < k
          · exact HA.out j y e hy
          · obtain rfl : j = k := by omega
            rw [hd] at hy
            injection hy with hy
            subst hy
            exact decide_eq_false he
        clear hsx hd
        go_wp2_with fail
        go_roundw
        case rel => exact ⟨k + 1, by omega, by go_num, HA2, by first | rfl | trivial⟩
        case measure => simp [intOf]; omega
    · obtain rfl : k = l.length := by omega
      have hnl : ¬ ((l.length : Int) < (l.length : Int)) := by omega
      have HR := Lib.hid (show findP s x = (0, false) from by
        have h9 : l.find? (deP x) = none := by
          rw [List.find?_eq_none]
          intro d hd
          obtain ⟨j, hj, rfl⟩ := List.getElem_of_mem hd
          rw [HA.out j _ hj (List.getElem?_eq_getElem hj)]; simp
        rw [HF.out, h9])
      go_wp2_with fail
      go_ret2
      exact ⟨by rw [HR.out]; rfl, B1⟩

set_option maxHeartbeats 1000000 in
theorem rroom_any (s : ByteArray) (w : World) (hs : s.size ≤ 100000) : Calls Try.prog 19 #[.string s] w fun e w' => e = .returned (.int .i64 (roomP s)) ∧ Below w.heap.size w w' := by
  have HP := Lib.hid (rparse_any s w hs)
  unfold ParseP at HP
  go_enter Try.func19, Try.ntmps19
  go_wp2_with fail
  refine HP.out.mono ?_
  rintro e w1 ⟨h | ⟨h1, rfl⟩, hb1⟩
  · obtain ⟨l, a, cap, h1, rfl, h3, h4⟩ := h
    obtain ⟨a', cap', hv, hnew, _, _⟩ := own_newd h4
    injection hv with hv1 _ hv3
    subst hv1 hv3
    have HV := Lib.hid hnew.vals
    have hok := packE_ok.1 (parseP_ok h1).1
    have HO := Lib.hid hok
    have HR := Lib.hid (show roomP s = 128 - (many l : Int) from by rw [roomP, h1])
    have hm := hok.2.2.2
    have hll := len_many l
    have hl' : (l.length : Int) ≤ 128 := by omega
    clear h1 h3 h4 hnew hok HP
    go_wp2_with fail
    have B1 := hb1
    clear hb1
    go_loopw [5, 6] (fun mm jj wr => ∃ k : Nat, k ≤ l.length ∧ jj = .int .i64 k ∧ mm = .int .i64 (128 - (many (l.take k) : Nat)) ∧ w1 = wr) (fun _ jj _ => l.length - (intOf jj).toNat)
    case atStart => exact ⟨0, by omega, rfl, rfl, rfl⟩
    case round =>
      obtain ⟨k, hk, rfl, rfl, rfl⟩ := hrel
      by_cases hlt : k < l.length
      · obtain ⟨x, hx⟩ : ∃ x, l[k]? = some x := ⟨_, List.getElem?_eq_getElem hlt⟩
        obtain ⟨P, o, rfl, hP, d0, d1⟩ := de_cells HV.out hx
        have i1 : (k : Int) < (l.length : Int) := by omega
        have i2 : (0 : Int) ≤ (k : Int) := by omega
        have hsz := ofNat_size (HO.out.1 x (List.mem_of_getElem? hx))
        have hmk : many (l.take k) ≤ 128 := Nat.le_trans (many_sub (List.take_sublist _ _)) hm
        have HMS := Lib.hid (show ((many (l.take (k + 1)) : Nat) : Int) = (many (l.take k) : Int) + 5 + (x.nm.size : Int) from by rw [take_snoc hx, many_append, many_one, De.sz]; omega)
        have hx32 : (x.nm.size : Int) ≤ 32 := by omega
        have hw1 : IntKind.i64.wrap (128 - (many (l.take k) : Int) - 5) = 128 - (many (l.take k) : Int) - 5 := IntWalk.i64_in _ (by omega)
        have hw2 : IntKind.i64.wrap (128 - (many (l.take k) : Int) - 5 - (x.nm.size : Int)) = 128 - (many (l.take k) : Int) - 5 - (x.nm.size : Int) := IntWalk.i64_in _ (by omega)
        clear hx hsz d1
        go_wp2_with fail
        go_roundw
        case rel => exact ⟨k + 1, by omega, by go_num, by rw [HMS.out]; exact congrArg (Value.int .i64) (by omega), by first | rfl | trivial⟩
        case measure => simp [intOf]; omega
      · obtain rfl : k = l.length := by omega
        rw [List.take_length]
        have hnl : ¬ ((l.length : Int) < (l.length : Int)) := by omega
        go_wp2_with fail
        go_ret
        exact ⟨by rw [HR.out]; rfl, B1⟩
  · have HR := Lib.hid (show roomP s = 0 from by rw [roomP, h1])
    clear h1 HP
    go_wp2_with fail
    go_ret
    exact ⟨by rw [HR.out]; rfl, hb1⟩

set_option maxHeartbeats 1000000 in
theorem rinsert_any (s : ByteArray) (x : De) (w : World) (hs : s.size ≤ 100000) : Calls Try.prog 21 #[.string s, x.agg] w fun e w' => e = .returned (.tuple #[.string (insertP s x).1, .int .i64 (insertP s x).2]) ∧ Below w.heap.size w w' := by
  have hb0 : Below w.heap.size w (w.alloc (.cells #[.string x.nm, .int .i64 x.ino] 25)) := (Below.refl _ _).alloc (Nat.le_refl _) _
  have HP := Lib.hid (rparse_any s (w.alloc (.cells #[.string x.nm, .int .i64 x.ino] 25)) hs)
  unfold ParseP at HP
  obtain ⟨i0, hi, hz0, hz1, hz2⟩ := info_parts info_de
  have HI := Lib.hid (And.intro hi (And.intro hz0 (And.intro hz1 hz2)))
  rw [agg_cells]
  clear hi hz0 hz1 hz2
  go_enter Try.func21, Try.ntmps21
  go_wp2_with fail
  refine HP.out.mono ?_
  rintro e w1 ⟨h | ⟨h1, rfl⟩, hb1⟩
  · obtain ⟨l, a, cap, h1, rfl, h3, h4⟩ := h
    have HR := Lib.hid (show insertP s x = (packB (l ++ [x]), packE (l ++ [x])) from by rw [insertP, h1])
    have hm := (packE_ok.1 (parseP_ok h1).1).2.2.2
    have hll := len_many l
    have hl' : l.length ≤ 128 := by omega
    have B1 := below_chain hb0 hb1 hb0.size
    have e0 : w1.cell? ⟨w.heap.size, 0, none⟩ = some (.string x.nm) := by rw [hb1.cell (p := ⟨w.heap.size, 0, none⟩) (by simp)]; exact World.cell?_alloc_new _ _ _ 0
    have e1 : w1.cell? ⟨w.heap.size, 1, none⟩ = some (.int .i64 x.ino) := by rw [hb1.cell (p := ⟨w.heap.size, 1, none⟩) (by simp)]; exact World.cell?_alloc_new _ _ _ 1
    have HK := Lib.hid h4
    have HLt := Lib.hid (fun j hj => World.ownsRow.lt HK.out j hj)
    have hsz1 := hb1.size
    simp only [World.size_alloc] at hsz1
    have HRw := Lib.hid (row_news4 (rowAt_alloc w1 #[.string x.nm, .int .i64 x.ino] 25))
    clear h1 h3 h4 hm hll HP hb0 hb1
    go_wp2_with (at_builtin; refine wpList_append_own _ rfl _ _ 22 rfl (w.heap.size + 1) 25 i0 (.agg #[.string ByteArray.empty, .int .i64 0]) 2 24 Try.underlying22 HI.out.1 HI.out.2.1 HI.out.2.2.1 HI.out.2.2.2 rfl (by decide) _ l.length _ rfl ((show w1.ownsRow (w.heap.size + 1) 25 2 (.slice a l.length cap) l.length (l.flatMap De.cells) from by have := HK.out; rw [World.size_alloc] at this; exact this).alloc _) ⟨w1.heap.size, 0, none⟩ 1 1 [.string x.nm, .int .i64 x.ino] rfl rfl HRw.out (by intro u hu; simp at hu; rcases hu with rfl | rfl <;> rfl) (by unfold maxLen; omega) (by omega) (by simp; omega) ?_)
    intro v' w9 hown9 hg9 _
    obtain ⟨a9, cap9, rfl⟩ := own_form hown9
    have B9 := grown_below4 (B1.alloc B1.size (.cells #[.string x.nm, .int .i64 x.ino] 25)) hg9 (fun j hj => by have := (HLt.out j hj).1; simp at this; omega) (by simp; omega)
    have HO9 : Hid (w9.ownsRow (w.heap.size + 1) 25 2 (.slice a9 (l ++ [x]).length cap9) (l ++ [x]).length ((l ++ [x]).flatMap De.cells)) := by
      show World.ownsRow _ _ _ _ _ _ _
      rw [List.length_append, List.flatMap_append]
      exact hown9
    obtain ⟨a', cap', hv, hnew, _, hcap⟩ := own_newd HO9.out
    injection hv with hv1 _ hv3
    subst hv1 hv3
    have hpk := rpack_any a9 cap9 (l ++ [x]) w9 hnew.vals (by simp; omega)
    have hlen : (l ++ [x]).length = l.length + 1 := by simp
    rw [hlen] at hpk
    have HPK := Lib.hid hpk
    unfold PackP at HPK
    clear hown9 hg9 HRw hnew hcap hpk hlen
    go_wp2_with fail
    refine HPK.out.mono ?_
    rintro e w10 ⟨rfl, hb10⟩
    have B10 := below_chain B9 hb10 B9.size
    generalize packB (l ++ [x]) = pb at *
    generalize packE (l ++ [x]) = pe at *
    go_wp2_with fail
    go_ret2
    exact ⟨by rw [HR.out]; rfl, B10⟩
  · have HR := Lib.hid (show insertP s x = (tx [], 80) from by rw [insertP, h1])
    have B1 := below_chain hb0 hb1 hb0.size
    clear h1 HP
    go_wp2_with fail
    go_ret2
    exact ⟨by rw [HR.out]; rfl, B1⟩

theorem filt_step_no {l : List De} {k : Nat} {x : De} {nm : ByteArray} (hx : l[k]? = some x) (h : deP nm x = false) : (l.take (k + 1)).filter (fun d => !deP nm d) = (l.take k).filter (fun d => !deP nm d) ++ [x] := by
  rw [take_snoc hx, List.filter_append]; simp [h]
theorem filt_step_yes {l : List De} {k : Nat} {x : De} {nm : ByteArray} (hx : l[k]? = some x) (h : deP nm x = true) : (l.take (k + 1)).filter (fun d => !deP nm d) = (l.take k).filter (fun d => !deP nm d) := by
  rw [take_snoc hx, List.filter_append]; simp [h]
theorem filt_none {l : List De} {nm : ByteArray} (h : placeP l nm = none) : l.filter (fun d => !deP nm d) = l := by
  rw [placeP, List.findIdx?_eq_none_iff] at h
  rw [List.filter_eq_self]
  intro d hd
  rw [h d hd]; rfl
theorem filt_some {l : List De} {nm : ByteArray} {i : Nat} (h : placeP l nm = some i) (hn : (l.map De.bs).Nodup) : l.filter (fun d => !deP nm d) = l.take i ++ l.drop (i + 1) ∧ (l.filter (fun d => !deP nm d)).length + 1 = l.length := by
  rw [placeP, List.findIdx?_eq_some_iff_getElem] at h
  obtain ⟨hi, h1, h2⟩ := h
  have hd := List.drop_eq_getElem_cons hi
  have h0 := List.take_append_drop i l
  rw [hd] at h0
  have ha : (l.take i).filter (fun d => !deP nm d) = l.take i := by
    rw [List.filter_eq_self]
    intro d hd
    obtain ⟨j, hj, rfl⟩ := List.getElem_of_mem hd
    have hj2 : j < i := by simp at hj; omega
    have := h2 j hj2
    simp only [List.getElem_take]
    simpa using this
  have hb : (l.drop (i + 1)).filter (fun d => !deP nm d) = l.drop (i + 1) := by
    rw [List.filter_eq_self]
    intro d hd
    rw [← h0, List.map_append, List.map_cons, List.nodup_append] at hn
    have hn2 := List.nodup_cons.1 hn.2.1
    have : deP nm d = false := by
      rw [deP]
      refine decide_eq_false fun e => hn2.1 ?_
      have e1 := deP_iff.1 h1
      rw [e1, ← e]
      exact List.mem_map_of_mem hd
    rw [this]; rfl
  have e : l.filter (fun d => !deP nm d) = l.take i ++ l.drop (i + 1) := by
    have : (l.take i ++ l[i] :: l.drop (i + 1)).filter (fun d => !deP nm d) = l.take i ++ l.drop (i + 1) := by
      rw [List.filter_append, List.filter_cons, ha, hb, h1]; simp
    rw [h0] at this
    exact this
  exact ⟨e, by rw [e]; simp; omega⟩

set_option maxHeartbeats 4000000 in
theorem rremove_any (s x : ByteArray) (w : World) (hs : s.size ≤ 100000) : Calls Try.prog 23 #[.string s, .string x] w fun e w' => e = .returned (.tuple #[.string (removeP s x).1, .bool (removeP s x).2]) ∧ Below w.heap.size w w' := by
  have HP := Lib.hid (rparse_any s w hs)
  unfold ParseP at HP
  obtain ⟨i0, hi, hz0, hz1, hz2⟩ := info_parts info_de
  have HI := Lib.hid (And.intro hi (And.intro hz0 (And.intro hz1 hz2)))
  clear hi hz0 hz1 hz2
  go_enter Try.func23, Try.ntmps23
  go_wp2_with fail
  refine HP.out.mono ?_
  rintro e w1 ⟨h | ⟨h1, rfl⟩, hb1⟩
  · obtain ⟨l, a, cap, h1, rfl, h3, h4⟩ := h
    have hok := packE_ok.1 (parseP_ok h1).1
    have hm := hok.2.2.2
    have hll := len_many l
    have hl' : (l.length : Int) ≤ 128 := by omega
    have HO := Lib.hid hok
    have HR1 := Lib.hid h1
    obtain ⟨a', cap', hv, hnew, _, _⟩ := own_newd h4
    injection hv with hv1 _ hv3
    subst hv1 hv3
    have HV := Lib.hid hnew.vals
    have BW := hb1
    clear h1 h3 h4 hok hnew hb1 HP hm hll
    go_wp2_with fail
    go_loopw [8, 9] (fun oo jj wr => ∃ (k : Nat) (L : List De) (a2 : Option Addr) (c2 : Nat), k ≤ l.length ∧ jj = .int .i64 k ∧ oo = .slice a2 L.length c2 ∧ Hid (L = (l.take k).filter (fun d => !deP x d)) ∧ L.length ≤ k ∧ Hid (wr.ownsRow w1.heap.size 25 2 (.slice a2 L.length c2) L.length (L.flatMap De.cells)) ∧ Below w1.heap.size w1 wr) (fun _ jj _ => l.length - (intOf jj).toNat)
    case atStart => exact ⟨0, [], none, 0, by omega, rfl, rfl, by show _ = _; simp, by simp, World.ownsRow_nil _ _ _ _, Below.refl _ _⟩
    case round =>
      obtain ⟨k, L, a2, c2, hk, rfl, rfl, HL, hLk, HK, B⟩ := hrel
      by_cases hlt : k < l.length
      · obtain ⟨d, hd⟩ : ∃ d, l[k]? = some d := ⟨_, List.getElem?_eq_getElem hlt⟩
        obtain ⟨P, o, rfl, hP, d0, d1⟩ := de_cells (HV.out.below B (Nat.le_refl _)) hd
        have i1 : (k : Int) < (l.length : Int) := by omega
        have i2 : (0 : Int) ≤ (k : Int) := by omega
        have hsx := str_eq d.nm x
        by_cases he : d.bs = bts x
        · have hsy : (d.nm.toList == x.toList) = true := by rw [hsx]; exact decide_eq_true he
          have HL2 := Lib.hid (show L = (l.take (k + 1)).filter (fun d => !deP x d) from by rw [filt_step_yes hd (deP_iff.2 he)]; exact HL.out)
          clear hsx hd
          go_wp2_with fail
          go_roundw
          case rel => exact ⟨k + 1, L, a2, c2, by omega, by go_num, rfl, HL2, by omega, HK, B⟩
          case measure => simp [intOf]; omega
        · have hsy : (d.nm.toList == x.toList) = false := by rw [hsx]; exact decide_eq_false he
          have HL2 := Lib.hid (show L ++ [d] = (l.take (k + 1)).filter (fun d => !deP x d) from by rw [filt_step_no hd (by rw [deP]; exact decide_eq_false he), ← HL.out])
          have HRw := Lib.hid (row_news4 (rowAt_alloc wr #[.string d.nm, .int .i64 d.ino] 25))
          have HLL := Lib.hid (fun j hj => World.ownsRow.lt HK.out j hj)
          clear hsx hd
          go_wp2_with (at_builtin; refine wpList_append_own _ rfl _ _ 22 rfl w1.heap.size 25 i0 (.agg #[.string ByteArray.empty, .int .i64 0]) 2 24 Try.underlying22 HI.out.1 HI.out.2.1 HI.out.2.2.1 HI.out.2.2.2 rfl (by decide) _ L.length _ rfl (HK.out.alloc _) ⟨wr.heap.size, 0, none⟩ 1 1 [.string d.nm, .int .i64 d.ino] rfl rfl HRw.out (by intro u hu; simp at hu; rcases hu with rfl | rfl <;> rfl) (by unfold maxLen; omega) (by omega) (by have := B.size; simp; omega) ?_)
          intro v' w9 hown9 hg9 _
          obtain ⟨a9, cap9, rfl⟩ := own_form hown9
          have B9 := grown_below4 (B.alloc B.size (.cells #[.string d.nm, .int .i64 d.ino] 25)) hg9 (fun j hj => (HLL.out j hj).1) (by have := B.size; simp; omega)
          have HO9 : Hid (w9.ownsRow w1.heap.size 25 2 (.slice a9 (L ++ [d]).length cap9) (L ++ [d]).length ((L ++ [d]).flatMap De.cells)) := by
            show World.ownsRow _ _ _ _ _ _ _
            rw [List.length_append, List.flatMap_append]
            exact hown9
          clear hown9 hg9 HRw
          go_wp2_with fail
          go_roundw
          case rel => exact ⟨k + 1, L ++ [d], a9, cap9, by omega, by go_num, by simp, HL2, by simp; omega, HO9, B9⟩
          case measure => simp [intOf]; omega
      · obtain rfl : k = l.length := by omega
        have hnl : ¬ ((l.length : Int) < (l.length : Int)) := by omega
        have hL := HL.out
        rw [List.take_length] at hL
        have B2 := below_chain BW B BW.size
        cases hp : placeP l x with
        | none =>
          have HR := Lib.hid (show removeP s x = (s, false) from by rw [removeP, HR1.out]; simp only [hp])
          have hLl : L = l := by rw [hL, filt_none hp]
          subst hLl
          clear hL hp
          go_wp2_with fail
          go_ret2
          exact ⟨by rw [HR.out]; rfl, B2⟩
        | some i =>
          have HR := Lib.hid (show removeP s x = (packB (l.take i ++ l.drop (i + 1)), true) from by rw [removeP, HR1.out]; simp only [hp])
          obtain ⟨f1, f2⟩ := filt_some hp HO.out.2.2.1
          rw [← hL] at f1 f2
          have hq : ((L.length : Int) == (l.length : Int)) = false := by rw [beq_eq_false_iff_ne]; omega
          obtain ⟨a', cap', hv, hnew, _, _⟩ := own_newd HK.out
          injection hv with hv1 _ hv3
          subst hv1 hv3
          rw [← f1] at HR
          have HPK := Lib.hid (rpack_any a2 c2 L wr hnew.vals (by omega))
          unfold PackP at HPK
          clear hL hp f1 f2 hnew
          generalize packB L = pb at *
          generalize packE L = pe at *
          go_wp2_with fail
          refine HPK.out.mono ?_
          rintro e w5 ⟨rfl, hb5⟩
          have B5 := below_chain B2 hb5 B2.size
          go_wp2_with fail
          go_ret2
          exact ⟨by rw [HR.out]; rfl, B5⟩
  · have HR := Lib.hid (show removeP s x = (s, false) from by rw [removeP, h1])
    clear h1 HP
    go_wp2_with fail
    go_ret2
    exact ⟨by rw [HR.out]; rfl, hb1⟩

end Go.Proofs.Ytlhkfpenfbakkaa
