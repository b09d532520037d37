/- For every input the law glissadelaw22.ModelBack returns true; within the numbers of calls that the law itself asks; else it returns true at once; a tied card: two package variables of unicode/utf8 are laid as the text lays them; the card speaks of a pruned copy of the project. -/
import Derived.BigQuiet
import Derived.Deep.QuietTactic
import Derived.Deep.RegionHeld3
import Derived.SevenTiedAt
import Derived.Test.YtppdihpobokfnaaGreatDoorModW43
import Derived.Test.YtppdihpobokfnaaGreatDoorGJ
import Derived.Test.YtppdihpobokfnaaGreatDoorTie
import Derived.Test.YtppdihpobokfnaaGreatDoorCards
import Derived.Test.YtppdihpobokfnaaGreatDoorGBase
set_option linter.unusedVariables false
set_option linter.unusedSimpArgs false
set_option maxRecDepth 100000
namespace Go.Proofs.YtppdihpobokfnaaGreatDoor
open Go.RowKit Go.Joins

set_option maxHeartbeats 16000000 in
theorem walk_modelBack (w : World) (a : Option Addr) (cap : Nat) (l : List Cl) (hle : l.length ≤ cap) (hcm : cap ≤ maxLen) (hV : ValG w a 7 (l.map callC)) (hQ : ∀ c ∈ l, ClOk c) (pa : ByteArray) (hpa : pa.size ≤ 140737488351232) (pb : ByteArray) (hpb : pb.size ≤ 140737488351232) :
    Calls Tryz.prog 7 #[.slice a l.length cap, .string pa, .string pb] w fun e w' => e = .returned (.bool true) ∧ Below w.heap.size w w' := by
  have HBY := Lib.hid (beyond22 a cap l 40 3000 w (by omega) (by omega) (by omega) hV)
  have HV := Lib.hid (And.intro hV hQ)
  have hpa' : (pa.size : Int) ≤ 9223372036854775807 := by omega
  have hpb' : (pb.size : Int) ≤ 9223372036854775807 := by omega
  clear hle hcm hV hQ hpa hpb
  go_enter Tryz.func7, Tryz.ntmps7
  go_wp2_with fail
  refine HBY.out.mono ?_
  rintro e W ⟨⟨b, rfl, hlen⟩, hb⟩
  have B := Lib.hid hb
  have HLEN := Lib.hid hlen
  clear hb hlen HBY
  cases b with
  | true =>
    go_wp2_with fail
    refine (lives22 _).mono ?_
    rintro e W9 ⟨rfl, hb⟩
    have B9 := Lib.hid (B.out.trans (hb.mono B.out.size))
    clear hb
    go_wp2_with fail
    go_ret
    exact ⟨rfl, B9.out⟩
  | false =>
    have HL := Lib.hid (HLEN.out rfl)
    clear HLEN
    by_cases c1 : (300 : Int) < (pa.size : Int)
    · go_wp2_with fail
      refine (lives22 _).mono ?_
      rintro e W9 ⟨rfl, hb⟩
      have B9 := Lib.hid (B.out.trans (hb.mono B.out.size))
      clear hb
      go_wp2_with fail
      go_ret
      exact ⟨rfl, B9.out⟩
    by_cases c2 : (300 : Int) < (pb.size : Int)
    · go_wp2_with fail
      refine (lives22 _).mono ?_
      rintro e W9 ⟨rfl, hb⟩
      have B9 := Lib.hid (B.out.trans (hb.mono B.out.size))
      clear hb
      go_wp2_with fail
      go_ret
      exact ⟨rfl, B9.out⟩
    have HS := Lib.hid (show pa.size ≤ 300 ∧ pb.size ≤ 300 by omega)
    go_wp2_with fail
    refine (plain22 pa _ (by have := HS.out.1; omega)).mono ?_
    rintro e W2 ⟨rfl, rfl⟩
    cases hA : plainP (bts pa) with
    | false =>
      go_wp2_with fail
      refine (lives22 _).mono ?_
      rintro e W9 ⟨rfl, hb⟩
      have B9 := Lib.hid (B.out.trans (hb.mono B.out.size))
      clear hb
      go_wp2_with fail
      go_ret
      exact ⟨rfl, B9.out⟩
    | true =>
      have HA := Lib.hid hA
      clear hA
      go_wp2_with fail
      refine (plain22 pb _ (by have := HS.out.2; omega)).mono ?_
      rintro e W2 ⟨rfl, rfl⟩
      cases hB : plainP (bts pb) with
      | false =>
        go_wp2_with fail
        refine (lives22 _).mono ?_
        rintro e W9 ⟨rfl, hb⟩
        have B9 := Lib.hid (B.out.trans (hb.mono B.out.size))
        clear hb
        go_wp2_with fail
        go_ret
        exact ⟨rfl, B9.out⟩
      | true =>
        have HB := Lib.hid hB
        clear hB
        have HPL := Lib.hid (lv_played (W := W2) B.out 20 ⟨by omega, by omega⟩ a cap l HV.out.1 HV.out.2 (by have := HL.out; omega) [] (fun p hp => by cases hp))
        have HLL := Lib.hid (play_inv (n := 20) (by omega) (by omega) l (by have := HL.out; omega)).2
        go_wp2_with fail
        refine HPL.out.mono ?_
        rintro e W3 ⟨MB, rw0, rfl, hL, _⟩
        obtain ⟨N, m, hN, hL, hLL⟩ : ∃ N m, N ≤ 1000 ∧ Lv w MB N W3 m rw0 ∧ L100 m := ⟨_, _, by have := HL.out; omega, hL, HLL.out⟩
        have L := Lib.hid (show (Lv w MB N W3 m rw0 ∧ L100 m) ∧ N ≤ 1000 from ⟨⟨hL, hLL⟩, hN⟩)
        clear hL hN hLL HPL HLL HL B HV
        try clear W2
        -- what stands at the other place
        have HDO := Lib.hid (lv_stat L.out.1.1 (by have := L.out.2; omega) pb)
        go_wp2_with fail
        refine HDO.out.mono ?_
        clear HDO
        rintro e W4 ⟨na, la, nc, lc, rw1, rfl, hL, _⟩
        obtain ⟨AE, AK, AS, AL, AP, hAE, hA2⟩ : ∃ AE AK AS AL AP, (statF m (findP m (bts pb))).e = AE ∧ (statF m (findP m (bts pb))).st.kind = AK ∧ (statF m (findP m (bts pb))).st.size = AS ∧ (statF m (findP m (bts pb))).st.links = AL ∧ (statF m (findP m (bts pb))).st.pin = AP := ⟨_, _, _, _, _, rfl, rfl, rfl, rfl, rfl⟩
        rw [hAE, hA2.1, hA2.2.1, hA2.2.2.1, hA2.2.2.2]
        have HAE := Lib.hid hAE
        have L1 := Lib.hid (show (Lv w MB (N + 1) W4 m rw1 ∧ L100 m) ∧ N ≤ 1000 from ⟨⟨hL, L.out.1.2⟩, L.out.2⟩)
        have B := Lib.hid L1.out.1.1.below
        clear L hL hAE hA2
        try clear W3
        have hfd := fun w => field_e w AE 0 ⟨#[]⟩ na la 0 nc 0 lc AK AS AL AP false
        by_cases c3 : AE = 210
        rotate_left
        · have q0 : (AE == 210) = false := by simpa using c3
          have q1 : decide (AE = 210) = false := by simpa using c3
          have q2 : (AE != 210) = true := by simpa using c3
          go_wp2_with fail
          refine (lives22 _).mono ?_
          rintro e W9 ⟨rfl, hb⟩
          have B9 := Lib.hid (B.out.trans (hb.mono B.out.size))
          clear hb
          go_wp2_with fail
          go_ret
          exact ⟨rfl, B9.out⟩
        subst c3
        have HST := Lib.hid (show (findP m (bts pb)).2 = 210 from by
          have h := HAE.out
          unfold statF at h
          by_cases q : (findP m (bts pb)).2 ≠ 0
          · rw [if_pos q] at h; exact h
          · rw [if_neg q] at h; simp [An.zero] at h)
        clear HAE B
        have HDO := Lib.hid (lv_view L1.out.1.1 (by have := L1.out.2; omega))
        go_wp2_with fail
        clear hfd
        refine HDO.out.mono ?_
        clear HDO
        rintro e W5 ⟨av, cv, rw2, rfl, hL, hsub, hg⟩
        have L2 := Lib.hid (show ((Lv w MB (N + 1) W5 m rw2 ∧ GIn rw2 av itC (viewP m)) ∧ L100 m) ∧ N ≤ 1000 from ⟨⟨⟨hL, hg⟩, L1.out.1.2⟩, L1.out.2⟩)
        clear hL hsub hg L1
        try clear W4
        -- it is moved
        have HDO := Lib.hid (lv_do2 L2.out.1.1.1 (by have := L2.out.2; omega) ⟨11, pa, pb, 0, 0, ⟨#[]⟩, false⟩ (show (Lit.int .i64 11).wf = true by decide))
        have HRF := Lib.hid (Refused.doP (L2.out.1.1.1.inv.good (by have := L2.out.2; omega)) ⟨11, pa, pb, 0, 0, ⟨#[]⟩, false⟩)
        have HBK := Lib.hid (fun he => back_rename L2.out.1.1.1.inv (by have := L2.out.2; omega) L2.out.1.2 ⟨11, pa, pb, 0, 0, ⟨#[]⟩, false⟩ ⟨11, pb, pa, 0, 0, ⟨#[]⟩, false⟩ rfl rfl HA.out HB.out HST.out he)
        go_wp2_with fail
        refine HDO.out.mono ?_
        clear HDO
        rintro e W6 ⟨na2, la2, nn2, nc2, ln2, lc2, k2, s2, l2, p2, rw3, rfl, hL, hsub⟩
        have hdo : doP m ⟨11, pa, pb, 0, 0, ⟨#[]⟩, false⟩ = renameP m ⟨11, pa, pb, 0, 0, ⟨#[]⟩, false⟩ := rfl
        rw [hdo] at hL HRF ⊢
        obtain ⟨R1, hR1⟩ : ∃ R1, R1 = renameP m ⟨11, pa, pb, 0, 0, ⟨#[]⟩, false⟩ := ⟨_, rfl⟩
        rw [← hR1] at hL HRF HBK ⊢
        clear hR1 hdo
        obtain ⟨⟨Ae, Anu, Ad, Ans, Ast, Al⟩, m1⟩ := R1
        simp only at hL HRF HBK ⊢
        have hfd := fun w => field_e w Ae Anu (tx Ad) na2 la2 nn2 nc2 ln2 lc2 k2 s2 l2 p2 false
        have L3 := Lib.hid (show (Lv w MB (N + 2) W6 m1 rw3 ∧ GIn rw3 av itC (viewP m)) ∧ N ≤ 1000 from ⟨⟨hL, L2.out.1.1.2.more hsub⟩, L2.out.2⟩)
        clear hL hsub L2
        try clear W5
        by_cases c4 : Ae = 0
        · subst c4
          obtain ⟨hbk1, hbk2, hbk3⟩ := HBK.out rfl
          have HBK2 := Lib.hid (And.intro hbk1 (And.intro hbk2 hbk3))
          clear hbk1 hbk2 hbk3 HBK HRF
          -- nothing stands at its place
          have HDO := Lib.hid (lv_stat L3.out.1.1 (by have := L3.out.2; omega) pa)
          go_wp2_with fail
          clear hfd
          refine HDO.out.mono ?_
          clear HDO
          rintro e W7 ⟨na3, la3, nc3, lc3, rw4, rfl, hL, hsub⟩
          have hse : (statF m1 (findP m1 (bts pa))).e = 210 := by
            unfold statF
            rw [HBK2.out.1, if_pos (by omega)]
            rfl
          rw [hse]
          obtain ⟨AK3, AS3, AL3, AP3, hA3⟩ : ∃ AK AS AL AP, (statF m1 (findP m1 (bts pa))).st.kind = AK ∧ (statF m1 (findP m1 (bts pa))).st.size = AS ∧ (statF m1 (findP m1 (bts pa))).st.links = AL ∧ (statF m1 (findP m1 (bts pa))).st.pin = AP := ⟨_, _, _, _, rfl, rfl, rfl, rfl⟩
          rw [hA3.1, hA3.2.1, hA3.2.2.1, hA3.2.2.2]
          have hfd := fun w => field_e w 210 0 ⟨#[]⟩ na3 la3 0 nc3 0 lc3 AK3 AS3 AL3 AP3 false
          have L4 := Lib.hid (show (Lv w MB (N + 3) W7 m1 rw4 ∧ GIn rw4 av itC (viewP m)) ∧ N ≤ 1000 from ⟨⟨hL, L3.out.1.2.more hsub⟩, L3.out.2⟩)
          clear hL hsub L3 hse hA3
          try clear W6
          -- it is moved back
          have HDO := Lib.hid (lv_do2 L4.out.1.1 (by have := L4.out.2; omega) ⟨11, pb, pa, 0, 0, ⟨#[]⟩, false⟩ (show (Lit.int .i64 11).wf = true by decide))
          go_wp2_with fail
          clear hfd
          refine HDO.out.mono ?_
          clear HDO
          rintro e W8 ⟨na4, la4, nn4, nc4, ln4, lc4, k4, s4, l4, p4, rw5, rfl, hL, hsub⟩
          have hdo : doP m1 ⟨11, pb, pa, 0, 0, ⟨#[]⟩, false⟩ = renameP m1 ⟨11, pb, pa, 0, 0, ⟨#[]⟩, false⟩ := rfl
          rw [hdo] at hL ⊢
          obtain ⟨R2, hR2⟩ : ∃ R2, R2 = renameP m1 ⟨11, pb, pa, 0, 0, ⟨#[]⟩, false⟩ := ⟨_, rfl⟩
          rw [← hR2] at hL HBK2 ⊢
          clear hR2 hdo
          obtain ⟨⟨Ce, Cnu, Cdd, Cns, Cst, Cll⟩, m2⟩ := R2
          simp only at hL HBK2 ⊢
          obtain ⟨_, hce, hal⟩ := HBK2.out
          subst hce
          have hveq := hal.view
          have hfd := fun w => field_e w 0 Cnu (tx Cdd) na4 la4 nn4 nc4 ln4 lc4 k4 s4 l4 p4 false
          have L5 := Lib.hid (show (Lv w MB (N + 4) W8 m2 rw5 ∧ GIn rw5 av itC (viewP m2)) ∧ N ≤ 1000 from ⟨⟨hL, by rw [hveq]; exact L4.out.1.2.more hsub⟩, L4.out.2⟩)
          have HVEQ := Lib.hid (congrArg List.length hveq)
          clear hL hsub L4 HBK2 hal hveq
          try clear W7
          have HDO := Lib.hid (lv_view L5.out.1.1 (by have := L5.out.2; omega))
          have hlen := Lib.hid (show (viewP m2).length ≤ 1000000 by have := view_len L5.out.1.1.inv; have := L5.out.2; omega)
          go_wp2_with fail
          clear hfd
          refine HDO.out.mono ?_
          clear HDO
          rintro e W10 ⟨av8, cv8, rw6, rfl, hL, hsub, hg⟩
          have L6 := Lib.hid (show ((Lv w MB (N + 4) W10 m2 rw6 ∧ GIn rw6 av itC (viewP m2)) ∧ GIn rw6 av8 itC (viewP m2)) ∧ N ≤ 1000 from ⟨⟨⟨hL, L5.out.1.2.more hsub⟩, hg⟩, L5.out.2⟩)
          clear hL hsub hg L5
          try clear W8
          rw [← HVEQ.out]
          go_wp2_with fail
          refine (same_view av8 av cv8 cv (viewP m2) _ hlen.out (L6.out.1.1.1.valG itC_len L6.out.1.2) (L6.out.1.1.1.valG itC_len L6.out.1.1.2)).mono ?_
          rintro e W11 ⟨rfl, hb⟩
          obtain ⟨NM, hNM⟩ : ∃ NM, NM = N + 4 := ⟨_, rfl⟩
          have LM := Lib.hid (show (Lv w MB NM W11 m2 rw6 ∧ GIn rw6 av itC (viewP m2)) ∧ NM ≤ 1008 from ⟨⟨by rw [hNM]; exact L6.out.1.1.1.under hb, L6.out.1.1.2⟩, by have := L6.out.2; omega⟩)
          clear hb L6 hNM hlen
          try clear W10
          have HDO := Lib.hid (lv_do2 LM.out.1.1 (by have := LM.out.2; omega) ⟨9, pa, pb, 0, 0, ⟨#[]⟩, false⟩ (show (Lit.int .i64 9).wf = true by decide))
          have HRF := Lib.hid (Refused.doP (LM.out.1.1.inv.good (by have := LM.out.2; omega)) ⟨9, pa, pb, 0, 0, ⟨#[]⟩, false⟩)
          have HBK := Lib.hid (fun he => back_link LM.out.1.1.inv (by have := LM.out.2; omega) ⟨9, pa, pb, 0, 0, ⟨#[]⟩, false⟩ ⟨10, pb, ⟨#[]⟩, 0, 0, ⟨#[]⟩, false⟩ rfl he)
          go_wp2_with fail
          try clear hfd
          refine HDO.out.mono ?_
          clear HDO
          rintro e W12 ⟨na5, la5, nn5, nc5, ln5, lc5, k5, s5, l5, p5, rw5, rfl, hL, hsub⟩
          have hdo : doP m2 ⟨9, pa, pb, 0, 0, ⟨#[]⟩, false⟩ = lnkP m2 ⟨9, pa, pb, 0, 0, ⟨#[]⟩, false⟩ := rfl
          rw [hdo] at hL HRF ⊢
          obtain ⟨R5, hR5⟩ : ∃ R5, R5 = lnkP m2 ⟨9, pa, pb, 0, 0, ⟨#[]⟩, false⟩ := ⟨_, rfl⟩
          rw [← hR5] at hL HRF HBK ⊢
          clear hR5 hdo
          obtain ⟨⟨Be, Bnu, Bd, Bns, Bst, Bl⟩, m5⟩ := R5
          simp only at hL HRF HBK ⊢
          have hfd := fun w => field_e w Be Bnu (tx Bd) na5 la5 nn5 nc5 ln5 lc5 k5 s5 l5 p5 false
          have LK := Lib.hid (show (Lv w MB (NM + 1) W12 m5 rw5 ∧ GIn rw5 av itC (viewP m2)) ∧ NM ≤ 1008 from ⟨⟨hL, LM.out.1.2.more hsub⟩, LM.out.2⟩)
          clear hL hsub LM
          by_cases c5 : Be = 0
          · subst c5
            obtain ⟨hbk1, hbk2⟩ := HBK.out rfl
            have HDO := Lib.hid (lv_do2 LK.out.1.1 (by have := LK.out.2; omega) ⟨10, pb, ⟨#[]⟩, 0, 0, ⟨#[]⟩, false⟩ (show (Lit.int .i64 10).wf = true by decide))
            have HBK2 := Lib.hid (And.intro hbk1 hbk2)
            clear hbk1 hbk2 HBK HRF
            go_wp2_with fail
            clear hfd
            refine HDO.out.mono ?_
            clear HDO
            rintro e W13 ⟨na6, la6, nn6, nc6, ln6, lc6, k6, s6, l6, p6, rw6, rfl, hL, hsub⟩
            have hdo : doP m5 ⟨10, pb, ⟨#[]⟩, 0, 0, ⟨#[]⟩, false⟩ = unlinkP m5 ⟨10, pb, ⟨#[]⟩, 0, 0, ⟨#[]⟩, false⟩ := rfl
            rw [hdo] at hL ⊢
            rw [HBK2.out.2] at hL
            rw [HBK2.out.1]
            generalize (unlinkP m5 ⟨10, pb, ⟨#[]⟩, 0, 0, ⟨#[]⟩, false⟩).1.n = Cn1 at *
            generalize (unlinkP m5 ⟨10, pb, ⟨#[]⟩, 0, 0, ⟨#[]⟩, false⟩).1.d = Cd1 at *
            have hfd := fun w => field_e w 0 Cn1 (tx Cd1) na6 la6 nn6 nc6 ln6 lc6 k6 s6 l6 p6 false
            have LF := Lib.hid (show (Lv w MB (NM + 2) W13 m2 rw6 ∧ GIn rw6 av itC (viewP m2)) ∧ NM + 2 ≤ 1010 from ⟨⟨hL, LK.out.1.2.more hsub⟩, by have := LK.out.2; omega⟩)
            clear hL hsub LK HBK2 hdo
            have HDO := Lib.hid (lv_view LF.out.1.1 (by have := LF.out.2; omega))
            have hlen := Lib.hid (show (viewP m2).length ≤ 1000000 by have := view_len LF.out.1.1.inv; have := LF.out.2; omega)
            go_wp2_with fail
            refine HDO.out.mono ?_
            clear HDO
            rintro e W20 ⟨av9, cv9, rw9, rfl, hL, hsub, hg⟩
            have L20 := Lib.hid (show (Lv w MB _ W20 m2 rw9 ∧ GIn rw9 av itC (viewP m2)) ∧ GIn rw9 av9 itC (viewP m2) from ⟨⟨hL, LF.out.1.2.more hsub⟩, hg⟩)
            clear hL hsub hg LF
            skip
            go_wp2_with fail
            refine (same_view av9 av cv9 cv (viewP m2) _ hlen.out (L20.out.1.1.valG itC_len L20.out.2) (L20.out.1.1.valG itC_len L20.out.1.2)).mono ?_
            rintro e W21 ⟨rfl, hb⟩
            have B := Lib.hid (L20.out.1.1.under hb).below
            clear hb L20
            go_wp2_with fail
            refine (lives22 _).mono ?_
            rintro e W9 ⟨rfl, hb⟩
            have B9 := Lib.hid (B.out.trans (hb.mono B.out.size))
            clear hb
            go_wp2_with fail
            go_ret
            exact ⟨rfl, B9.out⟩
          · have hrf := HRF.out c5
            have hm5 : m5 = m2 := congrArg Prod.snd hrf
            subst hm5
            have q0 : (Be == 0) = false := by simpa using c5
            have q1 : decide (Be = 0) = false := by simpa using c5
            have LF := Lib.hid (show (Lv w MB (NM + 1) W12 m5 rw5 ∧ GIn rw5 av itC (viewP m5)) ∧ NM + 1 ≤ 1010 from ⟨⟨LK.out.1.1, by first | exact LK.out.1.2 | (rw [trivial]; exact LK.out.1.2)⟩, by have := LK.out.2; omega⟩)
            clear LK HRF hrf HBK
            have HDO := Lib.hid (lv_view LF.out.1.1 (by have := LF.out.2; omega))
            have hlen := Lib.hid (show (viewP m5).length ≤ 1000000 by have := view_len LF.out.1.1.inv; have := LF.out.2; omega)
            go_wp2_with fail
            refine HDO.out.mono ?_
            clear HDO
            rintro e W20 ⟨av9, cv9, rw9, rfl, hL, hsub, hg⟩
            have L20 := Lib.hid (show (Lv w MB _ W20 m5 rw9 ∧ GIn rw9 av itC (viewP m5)) ∧ GIn rw9 av9 itC (viewP m5) from ⟨⟨hL, LF.out.1.2.more hsub⟩, hg⟩)
            clear hL hsub hg LF
            skip
            go_wp2_with fail
            refine (same_view av9 av cv9 cv (viewP m5) _ hlen.out (L20.out.1.1.valG itC_len L20.out.2) (L20.out.1.1.valG itC_len L20.out.1.2)).mono ?_
            rintro e W21 ⟨rfl, hb⟩
            have B := Lib.hid (L20.out.1.1.under hb).below
            clear hb L20
            go_wp2_with fail
            refine (lives22 _).mono ?_
            rintro e W9 ⟨rfl, hb⟩
            have B9 := Lib.hid (B.out.trans (hb.mono B.out.size))
            clear hb
            go_wp2_with fail
            go_ret
            exact ⟨rfl, B9.out⟩
        · have hrf := HRF.out c4
          have hm1 : m1 = m := congrArg Prod.snd hrf
          subst hm1
          have q0 : (Ae == 0) = false := by simpa using c4
          have q1 : decide (Ae = 0) = false := by simpa using c4
          obtain ⟨NM, hNM⟩ : ∃ NM, NM = N + 2 := ⟨_, rfl⟩
          have LM := Lib.hid (show (Lv w MB NM W6 m1 rw3 ∧ GIn rw3 av itC (viewP m1)) ∧ NM ≤ 1008 from ⟨⟨by rw [hNM]; exact L3.out.1.1, L3.out.1.2⟩, by have := L3.out.2; omega⟩)
          clear L3 hNM HRF hrf HBK
          have HDO := Lib.hid (lv_do2 LM.out.1.1 (by have := LM.out.2; omega) ⟨9, pa, pb, 0, 0, ⟨#[]⟩, false⟩ (show (Lit.int .i64 9).wf = true by decide))
          have HRF := Lib.hid (Refused.doP (LM.out.1.1.inv.good (by have := LM.out.2; omega)) ⟨9, pa, pb, 0, 0, ⟨#[]⟩, false⟩)
          have HBK := Lib.hid (fun he => back_link LM.out.1.1.inv (by have := LM.out.2; omega) ⟨9, pa, pb, 0, 0, ⟨#[]⟩, false⟩ ⟨10, pb, ⟨#[]⟩, 0, 0, ⟨#[]⟩, false⟩ rfl he)
          go_wp2_with fail
          try clear hfd
          refine HDO.out.mono ?_
          clear HDO
          rintro e W12 ⟨na5, la5, nn5, nc5, ln5, lc5, k5, s5, l5, p5, rw5, rfl, hL, hsub⟩
          have hdo : doP m1 ⟨9, pa, pb, 0, 0, ⟨#[]⟩, false⟩ = lnkP m1 ⟨9, pa, pb, 0, 0, ⟨#[]⟩, false⟩ := rfl
          rw [hdo] at hL HRF ⊢
          obtain ⟨R5, hR5⟩ : ∃ R5, R5 = lnkP m1 ⟨9, pa, pb, 0, 0, ⟨#[]⟩, false⟩ := ⟨_, rfl⟩
          rw [← hR5] at hL HRF HBK ⊢
          clear hR5 hdo
          obtain ⟨⟨Be, Bnu, Bd, Bns, Bst, Bl⟩, m5⟩ := R5
          simp only at hL HRF HBK ⊢
          have hfd := fun w => field_e w Be Bnu (tx Bd) na5 la5 nn5 nc5 ln5 lc5 k5 s5 l5 p5 false
          have LK := Lib.hid (show (Lv w MB (NM + 1) W12 m5 rw5 ∧ GIn rw5 av itC (viewP m1)) ∧ NM ≤ 1008 from ⟨⟨hL, LM.out.1.2.more hsub⟩, LM.out.2⟩)
          clear hL hsub LM
          by_cases c5 : Be = 0
          · subst c5
            obtain ⟨hbk1, hbk2⟩ := HBK.out rfl
            have HDO := Lib.hid (lv_do2 LK.out.1.1 (by have := LK.out.2; omega) ⟨10, pb, ⟨#[]⟩, 0, 0, ⟨#[]⟩, false⟩ (show (Lit.int .i64 10).wf = true by decide))
            have HBK2 := Lib.hid (And.intro hbk1 hbk2)
            clear hbk1 hbk2 HBK HRF
            go_wp2_with fail
            clear hfd
            refine HDO.out.mono ?_
            clear HDO
            rintro e W13 ⟨na6, la6, nn6, nc6, ln6, lc6, k6, s6, l6, p6, rw6, rfl, hL, hsub⟩
            have hdo : doP m5 ⟨10, pb, ⟨#[]⟩, 0, 0, ⟨#[]⟩, false⟩ = unlinkP m5 ⟨10, pb, ⟨#[]⟩, 0, 0, ⟨#[]⟩, false⟩ := rfl
            rw [hdo] at hL ⊢
            rw [HBK2.out.2] at hL
            rw [HBK2.out.1]
            generalize (unlinkP m5 ⟨10, pb, ⟨#[]⟩, 0, 0, ⟨#[]⟩, false⟩).1.n = Cn1 at *
            generalize (unlinkP m5 ⟨10, pb, ⟨#[]⟩, 0, 0, ⟨#[]⟩, false⟩).1.d = Cd1 at *
            have hfd := fun w => field_e w 0 Cn1 (tx Cd1) na6 la6 nn6 nc6 ln6 lc6 k6 s6 l6 p6 false
            have LF := Lib.hid (show (Lv w MB (NM + 2) W13 m1 rw6 ∧ GIn rw6 av itC (viewP m1)) ∧ NM + 2 ≤ 1010 from ⟨⟨hL, LK.out.1.2.more hsub⟩, by have := LK.out.2; omega⟩)
            clear hL hsub LK HBK2 hdo
            have HDO := Lib.hid (lv_view LF.out.1.1 (by have := LF.out.2; omega))
            have hlen := Lib.hid (show (viewP m1).length ≤ 1000000 by have := view_len LF.out.1.1.inv; have := LF.out.2; omega)
            go_wp2_with fail
            refine HDO.out.mono ?_
            clear HDO
            rintro e W20 ⟨av9, cv9, rw9, rfl, hL, hsub, hg⟩
            have L20 := Lib.hid (show (Lv w MB _ W20 m1 rw9 ∧ GIn rw9 av itC (viewP m1)) ∧ GIn rw9 av9 itC (viewP m1) from ⟨⟨hL, LF.out.1.2.more hsub⟩, hg⟩)
            clear hL hsub hg LF
            skip
            go_wp2_with fail
            refine (same_view av9 av cv9 cv (viewP m1) _ hlen.out (L20.out.1.1.valG itC_len L20.out.2) (L20.out.1.1.valG itC_len L20.out.1.2)).mono ?_
            rintro e W21 ⟨rfl, hb⟩
            have B := Lib.hid (L20.out.1.1.under hb).below
            clear hb L20
            go_wp2_with fail
            refine (lives22 _).mono ?_
            rintro e W9 ⟨rfl, hb⟩
            have B9 := Lib.hid (B.out.trans (hb.mono B.out.size))
            clear hb
            go_wp2_with fail
            go_ret
            exact ⟨rfl, B9.out⟩
          · have hrf := HRF.out c5
            have hm5 : m5 = m1 := congrArg Prod.snd hrf
            subst hm5
            have q0 : (Be == 0) = false := by simpa using c5
            have q1 : decide (Be = 0) = false := by simpa using c5
            have LF := Lib.hid (show (Lv w MB (NM + 1) W12 m5 rw5 ∧ GIn rw5 av itC (viewP m5)) ∧ NM + 1 ≤ 1010 from ⟨⟨LK.out.1.1, by first | exact LK.out.1.2 | (rw [trivial]; exact LK.out.1.2)⟩, by have := LK.out.2; omega⟩)
            clear LK HRF hrf HBK
            have HDO := Lib.hid (lv_view LF.out.1.1 (by have := LF.out.2; omega))
            have hlen := Lib.hid (show (viewP m5).length ≤ 1000000 by have := view_len LF.out.1.1.inv; have := LF.out.2; omega)
            go_wp2_with fail
            refine HDO.out.mono ?_
            clear HDO
            rintro e W20 ⟨av9, cv9, rw9, rfl, hL, hsub, hg⟩
            have L20 := Lib.hid (show (Lv w MB _ W20 m5 rw9 ∧ GIn rw9 av itC (viewP m5)) ∧ GIn rw9 av9 itC (viewP m5) from ⟨⟨hL, LF.out.1.2.more hsub⟩, hg⟩)
            clear hL hsub hg LF
            skip
            go_wp2_with fail
            refine (same_view av9 av cv9 cv (viewP m5) _ hlen.out (L20.out.1.1.valG itC_len L20.out.2) (L20.out.1.1.valG itC_len L20.out.1.2)).mono ?_
            rintro e W21 ⟨rfl, hb⟩
            have B := Lib.hid (L20.out.1.1.under hb).below
            clear hb L20
            go_wp2_with fail
            refine (lives22 _).mono ?_
            rintro e W9 ⟨rfl, hb⟩
            have B9 := Lib.hid (B.out.trans (hb.mono B.out.size))
            clear hb
            go_wp2_with fail
            go_ret
            exact ⟨rfl, B9.out⟩

/-! ### the frame (printed by mklaw.py) -/

set_option maxRecDepth 100000 in
theorem lifted_modelBack (os : Os) (started : os.Started) (H : Type) (enc : TypeId × Value → H) :
    ReturnsInHanded {} Tryz.checked os 7 .any (fun w args => (Rows.modelBackSpec.pre enc Tryz.prog Tryz.f7 Rows.modelBackRow.domain false w args ∧ laidMetH Tryz.prog Rows.modelBackRow.laid w) ∧ sizedMet enc Tryz.prog Tryz.f7 (OpenSpec.ofChange Rows.modelBackSpec) false w args) (Rows.modelBackSpec.post enc Tryz.prog Tryz.f7 false true false false) := by
  refine law_step_laid (C := Tryz.checked) (tb := 4) (by kernel_rfl) (by kernel_rfl) started (by kernel_rfl) Tryz.func7 rfl Tryz.underlying4 rfl ?_ ?_
    (ChangeSpec.witness_shaped (enc := enc) (C := Tryz.checked) (os := os) (X := fun w _ => laidMetH Tryz.prog Rows.modelBackRow.laid w) false (World.laidAll Tryz.prog os Rows.modelBackRow.laid) #[.slice none 0 0, .string ByteArray.empty, .string ByteArray.empty] 8 (World.laidAll_os _ _ _)
      (World.shaped_of_ZipB (by kernel_rfl) (by kernel_rfl)) (by kernel_rfl) (by kernel_rfl) (by kernel_rfl)
      (by rw [MakeChecks.laidMetH_plain _ _ _ (by kernel_rfl)]; exact laidMet_laidAll _ (by kernel_rfl) (by kernel_rfl))) ?_
  · intro ds hl
    match ds, hl with
    | [d0, d1, d2], _ => rfl
  · intro t ht
    rw [show Tryz.f7.params.toList = [22, 9, 9] from by rw [Tryz.params7]] at ht
    simp only [List.mem_cons, List.not_mem_nil, or_false] at ht
    rcases ht with rfl | rfl | rfl
    · exact ⟨by kernel_rfl, of_decide_eq_true (by kernel_rfl)⟩
    · exact ⟨by kernel_rfl, of_decide_eq_true (by kernel_rfl)⟩
    · exact ⟨by kernel_rfl, of_decide_eq_true (by kernel_rfl)⟩
  · intro W args hG
    rw [show Tryz.f7.params.toList = [22, 9, 9] from by rw [Tryz.params7]] at hG
    obtain ⟨v0, v1, v2, rfl, g0, g1, g2⟩ := gotAll_args3 hG
    obtain ⟨a0, cap0, l0, rfl, hle0, hcm0, hV0, hQ0⟩ := got_calls g0
    obtain ⟨a1, rfl, b1⟩ := got_string Tryz.underlying9 g1
    obtain ⟨a2, rfl, b2⟩ := got_string Tryz.underlying9 g2
    exact walk_modelBack W a0 cap0 l0 hle0 hcm0 hV0 hQ0 a1 b1 a2 b2

theorem modelBack_over : Rows.modelBackRow.holds Tryz.pinned (OpenSpec.ofChange Rows.modelBackSpec) :=
  OpenClaim.holds_of_wide 7 Tryz.f7 rfl rfl rfl rfl rfl rfl rfl ⟨rfl, rfl, rfl, rfl, rfl⟩ rfl rfl rfl rfl rfl (by kernel_rfl) Tryz.func7 (by kernel_rfl)
    (of_decide_eq_true (by kernel_rfl)) (by unfold Func.isWrapper; first | (rw [if_pos (by decide +kernel)]; kernel_rfl) | (rw [if_neg (by decide +kernel)]; exact ⟨rfl, rfl⟩))
    (fun os started H enc _ => lifted_modelBack os started H enc)

theorem modelBack_holds : Rows.ModelBackCardSaid :=
  Claim7.holds_tied_plain_at .later [] [.data, .pinned] true (true, "a2858bb3599f325511a5ea6afc3cb64a7205ceb57b21c251972803503bc7930f") true modelBack_over (fun _ h => by cases h) (by kernel_rfl) (fun _ h => by cases h) modelBack_row_tie rfl ⟨rfl, rfl⟩ (by kernel_rfl) rfl
    (fun f fn hf hfn => by
      obtain rfl : f = 7 := Option.some.inj ((show Tryz.prog.funcNamed "glissade/glissadelaw22.ModelBack" = some 7 by kernel_rfl).symm.trans hf) |>.symm
      obtain rfl : fn = Tryz.f7 := (Option.some.inj (Tryz.func7.symm.trans hfn)).symm
      exact ⟨by kernel_rfl, fun j t ht => by
        rw [Tryz.params7] at ht
        have hm : t ∈ [22, 9, 9] := by simpa using Array.mem_of_getElem? ht
        have hall : ([22, 9, 9].all fun u => !Tryz.prog.wantsStandIn u) = true := by kernel_rfl
        exact (show Tryz.prog.wantsStandIn t = false by simpa using List.all_eq_true.1 hall t hm)⟩)
    (by kernel_rfl)
#print axioms modelBack_holds

end Go.Proofs.YtppdihpobokfnaaGreatDoor
