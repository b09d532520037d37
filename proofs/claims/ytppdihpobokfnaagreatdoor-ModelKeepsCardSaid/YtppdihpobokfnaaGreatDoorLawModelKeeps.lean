/- For every input the law glissadelaw22.ModelKeeps returns true; within the numbers of calls that the law itself asks; else it returns true at once; a tied card: two package variables of unicode/utf8 are laid as the text lays them; the card speaks of a pruned copy of the project. -/
import Derived.BigQuiet
import Derived.Deep.QuietTactic
import Derived.Deep.RegionHeld3
import Derived.SevenTiedAt
import Derived.Test.YtppdihpobokfnaaGreatDoorModW41
import Derived.Test.YtppdihpobokfnaaGreatDoorPlainKeeps
import Derived.Test.YtppdihpobokfnaaGreatDoorGJ
import Derived.Test.YtppdihpobokfnaaGreatDoorTie
import Derived.Test.YtppdihpobokfnaaGreatDoorCards
import Derived.Test.YtppdihpobokfnaaGreatDoorGBase
set_option linter.unusedVariables false
set_option linter.unusedSimpArgs false
set_option maxRecDepth 100000
namespace Go.Proofs.YtppdihpobokfnaaGreatDoor
open Go.RowKit Go.Joins

set_option maxHeartbeats 16000000 in
theorem walk_modelKeeps (w : World) (a : Option Addr) (cap : Nat) (l : List Cl) (hle : l.length ≤ cap) (hcm : cap ≤ maxLen) (hV : ValG w a 7 (l.map callC)) (hQ : ∀ c ∈ l, ClOk c) (a2 : Option Addr) (cap2 : Nat) (l2 : List Cl) (hle2 : l2.length ≤ cap2) (hcm2 : cap2 ≤ maxLen) (hV2 : ValG w a2 7 (l2.map callC)) (hQ2 : ∀ c ∈ l2, ClOk c) (data : ByteArray) (hd : data.size ≤ 140737488351232) :
    Calls Tryz.prog 3 #[.slice a l.length cap, .slice a2 l2.length cap2, .string data] w fun e w' => e = .returned (.bool true) ∧ Below w.heap.size w w' := by
  have HBY := Lib.hid (beyond22 a cap l 30 3000 w (by omega) (by omega) (by omega) hV)
  have HBY2 := Lib.hid (fun W (hb : Below w.heap.size w W) => beyond22 a2 cap2 l2 30 3000 W (by omega) (by omega) (by omega) (hV2.below hb))
  have HV := Lib.hid (And.intro hV hQ)
  have HV2 := Lib.hid (And.intro hV2 hQ2)
  have hd' : (data.size : Int) ≤ 9223372036854775807 := by omega
  have hl2 : (l2.length : Int) ≤ 9223372036854775807 := by unfold maxLen at hcm2; omega
  clear hle hcm hV hQ hd hle2 hcm2 hV2 hQ2
  go_enter Tryz.func3, Tryz.ntmps3
  go_wp2_with fail
  refine HBY.out.mono ?_
  rintro e W ⟨⟨b, rfl, hlen⟩, hb⟩
  have B := Lib.hid hb
  have HLEN := Lib.hid hlen
  clear hb hlen HBY
  cases b with
  | true =>
    go_wp2_with fail
    refine (lives22 _).mono ?_
    rintro e W9 ⟨rfl, hb⟩
    have B9 := Lib.hid (B.out.trans (hb.mono B.out.size))
    clear hb
    go_wp2_with fail
    go_ret
    exact ⟨rfl, B9.out⟩
  | false =>
    have HL := Lib.hid (HLEN.out rfl)
    clear HLEN
    go_wp2_with fail
    refine (HBY2.out _ B.out).mono ?_
    rintro e W2 ⟨⟨b, rfl, hlen⟩, hb⟩
    have B2 := Lib.hid (B.out.trans (hb.mono B.out.size))
    have HLEN := Lib.hid hlen
    clear hb hlen HBY2 B
    try clear W
    have B := B2
    clear B2
    cases b with
    | true =>
      go_wp2_with fail
      refine (lives22 _).mono ?_
      rintro e W9 ⟨rfl, hb⟩
      have B9 := Lib.hid (B.out.trans (hb.mono B.out.size))
      clear hb
      go_wp2_with fail
      go_ret
      exact ⟨rfl, B9.out⟩
    | false =>
      have HL2 := Lib.hid (HLEN.out rfl)
      clear HLEN
      by_cases c1 : (1024 : Int) < (data.size : Int)
      · go_wp2_with fail
        refine (lives22 _).mono ?_
        rintro e W9 ⟨rfl, hb⟩
        have B9 := Lib.hid (B.out.trans (hb.mono B.out.size))
        clear hb
        go_wp2_with fail
        go_ret
        exact ⟨rfl, B9.out⟩
      have HD := Lib.hid (show data.size ≤ 1024 by omega)
      have HPL := Lib.hid (lv_played (W := W2) B.out 30 ⟨by omega, by omega⟩ a cap l HV.out.1 HV.out.2 (by have := HL.out; omega) [] (fun p hp => by cases hp))
      go_wp2_with fail
      refine HPL.out.mono ?_
      rintro e W3 ⟨MB, rw0, rfl, hL, _⟩
      obtain ⟨N, m, hN, hL⟩ : ∃ N m, N ≤ 1000 ∧ Lv w MB N W3 m rw0 := ⟨_, _, by have := HL.out; omega, hL⟩
      have L := Lib.hid (And.intro hL hN)
      clear hL hN HPL HL B HV
      try clear W2
      have HDO := Lib.hid (lv_do2 L.out.1 (by have := L.out.2; omega) ⟨1, ⟨#[47, 107, 101, 112, 116]⟩, ⟨#[]⟩, 0, 3, ⟨#[]⟩, false⟩ (by decide))
      go_wp2_with fail
      refine HDO.out.mono ?_
      clear HDO
      rintro e W ⟨na1, la1, nn1, nc1, ln1, lc1, k1, s1, l1, p1, rw1, rfl, hL, _⟩
      have HK := Lib.hid (openP_new L.out.1.inv ⟨1, ⟨#[47, 107, 101, 112, 116]⟩, ⟨#[]⟩, 0, 3, ⟨#[]⟩, false⟩ rfl rfl)
      have L1 := Lib.hid (And.intro hL L.out.2)
      clear L hL
      generalize doP m ⟨1, ⟨#[47, 107, 101, 112, 116]⟩, ⟨#[]⟩, 0, 3, ⟨#[]⟩, false⟩ = A at *
      obtain ⟨⟨Ae, An, Ad, Ans, Ast, Al⟩, Am⟩ := A
      simp only at *
      obtain ⟨b1, hb1⟩ : ∃ b, b = W.heap.size := ⟨_, rfl⟩
      have hW := L1.out.1.alloc #[.int .i64 Ae, .int .i64 An, .string (tx Ad), .slice na1 nn1 nc1, .int .i64 k1, .int .i64 s1, .int .i64 l1, .bool p1, .slice la1 ln1 lc1, .bool false] 33
      rw [← hb1] at hW
      go_upto_region 7 with fail
      rw [← hb1]
      generalize W.alloc (.cells #[.int .i64 Ae, .int .i64 An, .string (tx Ad), .slice na1 nn1 nc1, .int .i64 k1, .int .i64 s1, .int .i64 l1, .bool p1, .slice la1 ln1 lc1, .bool false] 33) = W4 at *
      obtain ⟨rs, hrs⟩ : ∃ rs, rs = (b1, [.int .i64 Ae, .int .i64 An, .string (tx Ad), .slice na1 nn1 nc1, .int .i64 k1, .int .i64 s1, .int .i64 l1, .bool p1, .slice la1 ln1 lc1, .bool false]) :: rw1 := ⟨_, rfl⟩
      have L2 := Lib.hid (show (Lv w MB (N + 1) W4 Am rs ∧ (b1, [.int .i64 Ae, .int .i64 An, .string (tx Ad), .slice na1 nn1 nc1, .int .i64 k1, .int .i64 s1, .int .i64 l1, .bool p1, .slice la1 ln1 lc1, .bool false]) ∈ rs) ∧ N ≤ 1000 from ⟨⟨by rw [hrs]; exact hW, by rw [hrs]; exact List.mem_cons_self ..⟩, L1.out.2⟩)
      clear L1 hW hrs hb1
      try clear W
      try clear rw1
      have x0 : W4.cell? ⟨b1, 0, none⟩ = some (.int .i64 Ae) := (L2.out.1.1.row L2.out.1.2).cell 0 (by simp)
      by_cases c2 : Ae = 0
      rotate_left
      · have B := Lib.hid L2.out.1.1.below
        have c2' : (Ae == 0) = false := by simpa using c2
        have c2'' : decide (Ae = 0) = false := by simpa using c2
        go_wp2_with fail
        refine (lives22 _).mono ?_
        rintro e W9 ⟨rfl, hb⟩
        have B9 := Lib.hid (B.out.trans (hb.mono B.out.size))
        clear hb
        go_wp2_with fail
        go_ret
        exact ⟨rfl, B9.out⟩
      subst c2
      obtain ⟨fd, k0, h16, hfd, hkep, hslot⟩ := HK.out rfl
      subst hfd
      have x1 : W4.cell? ⟨b1, 1, none⟩ = some (.int .i64 (fd : Int)) := (L2.out.1.1.row L2.out.1.2).cell 1 (by simp)
      have HPN := Lib.hid (putP_new hkep h16 hslot ⟨4, ⟨#[]⟩, ⟨#[]⟩, (fd : Int), 0, data, false⟩ rfl rfl HD.out)
      have H16 := Lib.hid h16
      have HDO := Lib.hid (lv_do2 L2.out.1.1 (by have := L2.out.2; omega) ⟨4, ⟨#[]⟩, ⟨#[]⟩, (fd : Int), 0, data, false⟩ (show (Lit.int .i64 4).wf = true by decide))
      clear HK hkep hslot h16
      go_wp2_with fail
      refine HDO.out.mono ?_
      clear HDO
      rintro e W ⟨na2, la2, nn2, nc2, ln2, lc2, k2, s2, l2', p2, rw2, rfl, hL, hsub⟩
      have L3 := Lib.hid (And.intro hL (And.intro (hsub _ L2.out.1.2) L2.out.2))
      clear L2 hL hsub x0 x1
      obtain ⟨A, hA⟩ : ∃ A, A = doP Am ⟨4, ⟨#[]⟩, ⟨#[]⟩, (fd : Int), 0, data, false⟩ := ⟨_, rfl⟩
      rw [← hA] at L3 HPN ⊢
      clear hA
      obtain ⟨⟨Be, Bn, Bd, Bns, Bst, Bl⟩, Bm⟩ := A
      simp only at *
      obtain ⟨q1, q2, q3⟩ := HPN.out
      subst q1 q2
      have HKP := Lib.hid q3
      clear q3 HPN
      obtain ⟨b2, hb2⟩ : ∃ b, b = W.heap.size := ⟨_, rfl⟩
      have hW := L3.out.1.alloc #[.int .i64 0, .int .i64 (data.size : Int), .string (tx Bd), .slice na2 nn2 nc2, .int .i64 k2, .int .i64 s2, .int .i64 l2', .bool p2, .slice la2 ln2 lc2, .bool false] 33
      rw [← hb2] at hW
      go_upto_region 10 with fail
      rw [← hb2]
      generalize W.alloc (.cells #[.int .i64 0, .int .i64 (data.size : Int), .string (tx Bd), .slice na2 nn2 nc2, .int .i64 k2, .int .i64 s2, .int .i64 l2', .bool p2, .slice la2 ln2 lc2, .bool false] 33) = W4 at *
      have x0 : W4.cell? ⟨b2, 0, none⟩ = some (.int .i64 0) := (hW.row (List.mem_cons_self ..)).cell 0 (by simp)
      have x1 : W4.cell? ⟨b2, 1, none⟩ = some (.int .i64 (data.size : Int)) := (hW.row (List.mem_cons_self ..)).cell 1 (by simp)
      obtain ⟨rs2, r0, hrs⟩ : ∃ (rs2 : List (Nat × List Value)) (r0 : List Value), r0 = [.int .i64 0, .int .i64 (fd : Int), .string (tx Ad), .slice na1 nn1 nc1, .int .i64 k1, .int .i64 s1, .int .i64 l1, .bool p1, .slice la1 ln1 lc1, .bool false] ∧ (b1, r0) ∈ rs2 ∧ Lv w MB (N + 1 + 1) W4 Bm rs2 := ⟨_, _, rfl, List.mem_cons_of_mem _ L3.out.2.1, hW⟩
      have LI := Lib.hid (show ((Lv w MB (N + 2) W4 Bm rs2 ∧ (b1, r0) ∈ rs2) ∧ r0[1]? = some (.int .i64 (fd : Int))) ∧ N ≤ 1000 from ⟨⟨⟨hrs.2.2, hrs.2.1⟩, by rw [hrs.1]; rfl⟩, L3.out.2.2⟩)
      clear L3 hW hrs hb2
      go_wp2_with fail
      clear x0 x1
      go_loopw [10] (fun jj wr => ∃ (k : Nat) (mk : Md) (Nk : Nat) (rs : List (Nat × List Value)), k ≤ l2.length ∧ jj = .int .i64 (k : Int) ∧ Hid ((Lv w MB Nk wr mk rs ∧ (b1, r0) ∈ rs) ∧ Nk ≤ 1002 + k ∧ Kept fd k0 (bts data) mk)) (fun jj _ => l2.length - (intOf jj).toNat)
      case atStart => exact ⟨0, Bm, N + 2, rs2, by omega, rfl, LI.out.1.1, by have := LI.out.2; omega, HKP.out⟩
      case round =>
        obtain ⟨k, mk, Nk, rs, hk, rfl, LK⟩ := hrel
        have y1 : wr.cell? ⟨b1, 1, none⟩ = some (.int .i64 (fd : Int)) := by
          have hr := LK.out.1.1.row LK.out.1.2
          obtain ⟨hi, _⟩ := List.getElem?_eq_some_iff.1 LI.out.1.2
          rw [hr.cell 1 hi, LI.out.1.2]
        by_cases hlt : k < l2.length
        · obtain ⟨x, hx⟩ : ∃ x, l2[k]? = some x := ⟨_, List.getElem?_eq_getElem hlt⟩
          obtain ⟨P, o, rfl, hP, c0, c1, c2, c3, c4, c5, c6⟩ := call_cells (HV2.out.1.below LK.out.1.1.below) hx
          have i1 : (k : Int) < (l2.length : Int) := by omega
          have i2 : (0 : Int) ≤ (k : Int) := by omega
          have HX := Lib.hid hx
          clear hx hlt
          go_upto_region 16 with fail
          by_cases hf : x.fd = (fd : Int)
          · have gf_a : (x.fd == (fd : Int)) = true := by simpa using hf
            have gf_b : decide (x.fd = (fd : Int)) = true := by simpa using hf
            by_cases h2 : x.k = 2
            · have g2_a : (x.k == 2) = true := by simpa using h2
              have g2_b : decide (x.k = 2) = true := by simpa using h2
              clear c0 c1 c2 c4 c5 c6
              go_quiet (fail)
              have LK2 := Lib.hid (And.intro (And.intro (LK.out.1.1.under (below_drewN (Below.refl _ _) nq)) LK.out.1.2) LK.out.2)
              clear LK c3 y1
              go_wp2_with fail
              go_roundw
              case rel => exact ⟨k + 1, mk, Nk, rs, by omega, by go_num, LK2.out.1, by have := LK2.out.2.1; omega, LK2.out.2.2⟩
              case measure => simp [intOf]; omega
            have g2_a : (x.k == 2) = false := by simpa using h2
            have g2_b : decide (x.k = 2) = false := by simpa using h2
            by_cases h4 : x.k = 4
            · have g4_a : (x.k == 4) = true := by simpa using h4
              have g4_b : decide (x.k = 4) = true := by simpa using h4
              clear c0 c1 c2 c4 c5 c6
              go_quiet (fail)
              have LK2 := Lib.hid (And.intro (And.intro (LK.out.1.1.under (below_drewN (Below.refl _ _) nq)) LK.out.1.2) LK.out.2)
              clear LK c3 y1
              go_wp2_with fail
              go_roundw
              case rel => exact ⟨k + 1, mk, Nk, rs, by omega, by go_num, LK2.out.1, by have := LK2.out.2.1; omega, LK2.out.2.2⟩
              case measure => simp [intOf]; omega
            have g4_a : (x.k == 4) = false := by simpa using h4
            have g4_b : decide (x.k = 4) = false := by simpa using h4
            by_cases h6 : x.k = 6
            · have g6_a : (x.k == 6) = true := by simpa using h6
              have g6_b : decide (x.k = 6) = true := by simpa using h6
              clear c0 c1 c2 c4 c5 c6
              go_quiet (fail)
              have LK2 := Lib.hid (And.intro (And.intro (LK.out.1.1.under (below_drewN (Below.refl _ _) nq)) LK.out.1.2) LK.out.2)
              clear LK c3 y1
              go_wp2_with fail
              go_roundw
              case rel => exact ⟨k + 1, mk, Nk, rs, by omega, by go_num, LK2.out.1, by have := LK2.out.2.1; omega, LK2.out.2.2⟩
              case measure => simp [intOf]; omega
            have g6_a : (x.k == 6) = false := by simpa using h6
            have g6_b : decide (x.k = 6) = false := by simpa using h6
            by_cases h1 : x.k = 1
            · have g1_a : (x.k == 1) = true := by simpa using h1
              have g1_b : decide (x.k = 1) = true := by simpa using h1
              clear c0 c1 c2 c4 c5 c6
              go_quiet (fail)
              have LK2 := Lib.hid (And.intro (And.intro (LK.out.1.1.under (below_drewN (Below.refl _ _) nq)) LK.out.1.2) LK.out.2)
              clear LK c3 y1
              go_wp2_with fail
              go_roundw
              case rel => exact ⟨k + 1, mk, Nk, rs, by omega, by go_num, LK2.out.1, by have := LK2.out.2.1; omega, LK2.out.2.2⟩
              case measure => simp [intOf]; omega
            have g1_a : (x.k == 1) = false := by simpa using h1
            have g1_b : decide (x.k = 1) = false := by simpa using h1
            have NE1 := h1
            have NE2 : ¬ (x.fd = (fd : Int) ∧ (x.k = 2 ∨ x.k = 4 ∨ x.k = 6)) := by omega
            have HKD := Lib.hid (fun hI : Inv Nk Nul mk => Kept.doP hI LK.out.2.2 x NE1 NE2)
            clear c0 c1 c2 c4 c5 c6
            go_quiet (fail)
            have LK2 := Lib.hid (And.intro (And.intro (LK.out.1.1.under (below_drewN (Below.refl _ _) nq)) LK.out.1.2) LK.out.2)
            clear LK c3 y1 hf gf_a gf_b NE1 NE2
            obtain ⟨P2, o2, e2, hP2, c0, c1, c2, c3, c4, c5, c6⟩ := call_cells (HV2.out.1.below LK2.out.1.1.below) HX.out
            injection e2 with e2
            injection e2 with e2 e3 e4
            subst e2 e3
            have HC := Lib.hid (lv_do2 LK2.out.1.1 (by have := LK2.out.2.1; have := HL2.out; omega) x (HV2.out.2 x (List.mem_of_getElem? HX.out)).wf)
            go_wp2_with fail
            refine HC.out.mono ?_
            rintro e W5 ⟨na5, la5, nn5, nc5, ln5, lc5, k5, s5, l5, p5, rs5, rfl, hL, hsub⟩
            have L5 := Lib.hid (And.intro hL (And.intro (hsub _ LK2.out.1.2) (HKD.out LK2.out.1.1.inv)))
            clear hL hsub HC c0 c1 c2 c3 c4 c5 c6
            go_wp2_with fail
            go_roundw
            case rel =>
              refine ⟨k + 1, (doP mk x).2, Nk + 1, rs5, by omega, by go_num, ?_⟩
              have q := LK2.out.2.1
              exact Lib.hid (And.intro (And.intro L5.out.1 L5.out.2.1) (And.intro (show Nk + 1 ≤ 1002 + (k + 1) by omega) L5.out.2.2))
            case measure => simp [intOf]; omega
          have gf_a : (x.fd == (fd : Int)) = false := by simpa using hf
          have gf_b : decide (x.fd = (fd : Int)) = false := by simpa using hf
          by_cases h1 : x.k = 1
          · have g1_a : (x.k == 1) = true := by simpa using h1
            have g1_b : decide (x.k = 1) = true := by simpa using h1
            clear c0 c1 c2 c4 c5 c6
            go_quiet (fail)
            have LK2 := Lib.hid (And.intro (And.intro (LK.out.1.1.under (below_drewN (Below.refl _ _) nq)) LK.out.1.2) LK.out.2)
            clear LK c3 y1
            go_wp2_with fail
            go_roundw
            case rel => exact ⟨k + 1, mk, Nk, rs, by omega, by go_num, LK2.out.1, by have := LK2.out.2.1; omega, LK2.out.2.2⟩
            case measure => simp [intOf]; omega
          have g1_a : (x.k == 1) = false := by simpa using h1
          have g1_b : decide (x.k = 1) = false := by simpa using h1
          have NE1 := h1
          have NE2 : ¬ (x.fd = (fd : Int) ∧ (x.k = 2 ∨ x.k = 4 ∨ x.k = 6)) := fun q => hf q.1
          have HKD := Lib.hid (fun hI : Inv Nk Nul mk => Kept.doP hI LK.out.2.2 x NE1 NE2)
          clear c0 c1 c2 c4 c5 c6
          go_quiet (fail)
          have LK2 := Lib.hid (And.intro (And.intro (LK.out.1.1.under (below_drewN (Below.refl _ _) nq)) LK.out.1.2) LK.out.2)
          clear LK c3 y1 hf gf_a gf_b NE1 NE2
          obtain ⟨P2, o2, e2, hP2, c0, c1, c2, c3, c4, c5, c6⟩ := call_cells (HV2.out.1.below LK2.out.1.1.below) HX.out
          injection e2 with e2
          injection e2 with e2 e3 e4
          subst e2 e3
          have HC := Lib.hid (lv_do2 LK2.out.1.1 (by have := LK2.out.2.1; have := HL2.out; omega) x (HV2.out.2 x (List.mem_of_getElem? HX.out)).wf)
          go_wp2_with fail
          refine HC.out.mono ?_
          rintro e W5 ⟨na5, la5, nn5, nc5, ln5, lc5, k5, s5, l5, p5, rs5, rfl, hL, hsub⟩
          have L5 := Lib.hid (And.intro hL (And.intro (hsub _ LK2.out.1.2) (HKD.out LK2.out.1.1.inv)))
          clear hL hsub HC c0 c1 c2 c3 c4 c5 c6
          go_wp2_with fail
          go_roundw
          case rel =>
            refine ⟨k + 1, (doP mk x).2, Nk + 1, rs5, by omega, by go_num, ?_⟩
            have q := LK2.out.2.1
            exact Lib.hid (And.intro (And.intro L5.out.1 L5.out.2.1) (And.intro (show Nk + 1 ≤ 1002 + (k + 1) by omega) L5.out.2.2))
          case measure => simp [intOf]; omega
        · obtain rfl : k = l2.length := by omega
          have hnl : ¬ ((l2.length : Int) < (l2.length : Int)) := by omega
          have LKB := Lib.hid (Kept.back LK.out.2.2 H16.out (by rw [bts_length]; exact HD.out) ⟨5, ⟨#[]⟩, ⟨#[]⟩, (fd : Int), 0, ⟨#[]⟩, false⟩ ⟨3, ⟨#[]⟩, ⟨#[]⟩, (fd : Int), 1024, ⟨#[]⟩, false⟩ ⟨rfl, rfl, rfl⟩ ⟨rfl, rfl, rfl⟩)
          have HDO := Lib.hid (lv_do2 LK.out.1.1 (by have := LK.out.2.1; have := HL2.out; omega) ⟨5, ⟨#[]⟩, ⟨#[]⟩, (fd : Int), 0, ⟨#[]⟩, false⟩ (show (Lit.int .i64 5).wf = true by decide))
          go_wp2_with fail
          refine HDO.out.mono ?_
          clear HDO
          rintro e W6 ⟨na6, la6, nn6, nc6, ln6, lc6, k6, s6, l6, p6, rs6, rfl, hL, hsub⟩
          have L6 := Lib.hid (And.intro (And.intro hL (hsub _ LK.out.1.2)) LK.out.2.1)
          clear hL hsub y1
          have y1 : W6.cell? ⟨b1, 1, none⟩ = some (.int .i64 (fd : Int)) := by
            have hr := L6.out.1.1.row L6.out.1.2
            obtain ⟨hi, _⟩ := List.getElem?_eq_some_iff.1 LI.out.1.2
            rw [hr.cell 1 hi, LI.out.1.2]
          generalize doP mk ⟨5, ⟨#[]⟩, ⟨#[]⟩, (fd : Int), 0, ⟨#[]⟩, false⟩ = X5 at *
          have HDO := Lib.hid (lv_do2 L6.out.1.1 (by have := L6.out.2; have := HL2.out; omega) ⟨3, ⟨#[]⟩, ⟨#[]⟩, (fd : Int), 1024, ⟨#[]⟩, false⟩ (show (Lit.int .i64 3).wf = true by decide))
          go_wp2_with fail
          refine HDO.out.mono ?_
          clear HDO
          rintro e W ⟨na7, la7, nn7, nc7, ln7, lc7, k7, s7, l7, p7, rs7, rfl, hL, hsub⟩
          have htx : tx (bts data) = data := bts_ext (tx_bts (bts data))
          rw [LKB.out.1, LKB.out.2, htx]
          have L7 := Lib.hid (And.intro hL trivial)
          clear hL hsub y1 htx
          obtain ⟨b7, hb7⟩ : ∃ b, b = W.heap.size := ⟨_, rfl⟩
          have hW := L7.out.1.alloc #[.int .i64 0, .int .i64 (doP X5.2 ⟨3, ⟨#[]⟩, ⟨#[]⟩, (fd : Int), 1024, ⟨#[]⟩, false⟩).1.n, .string data, .slice na7 nn7 nc7, .int .i64 k7, .int .i64 s7, .int .i64 l7, .bool p7, .slice la7 ln7 lc7, .bool false] 33
          rw [← hb7] at hW
          go_upto_region 20 with fail
          rw [← hb7]
          generalize W.alloc (.cells #[.int .i64 0, .int .i64 (doP X5.2 ⟨3, ⟨#[]⟩, ⟨#[]⟩, (fd : Int), 1024, ⟨#[]⟩, false⟩).1.n, .string data, .slice na7 nn7 nc7, .int .i64 k7, .int .i64 s7, .int .i64 l7, .bool p7, .slice la7 ln7 lc7, .bool false] 33) = W4 at *
          have x0 : W4.cell? ⟨b7, 0, none⟩ = some (.int .i64 0) := (hW.row (List.mem_cons_self ..)).cell 0 (by simp)
          have x2 : W4.cell? ⟨b7, 2, none⟩ = some (.string data) := (hW.row (List.mem_cons_self ..)).cell 2 (by simp)
          have B := Lib.hid hW.below
          clear hW hb7
          go_wp2_with fail
          refine (lives22 _).mono ?_
          rintro e W9 ⟨rfl, hb⟩
          have B9 := Lib.hid (B.out.trans (hb.mono B.out.size))
          clear hb
          go_wp2_with fail
          go_ret
          exact ⟨rfl, B9.out⟩

/-! ### the frame (printed by mklaw.py) -/

set_option maxRecDepth 100000 in
theorem lifted_modelKeeps (os : Os) (started : os.Started) (H : Type) (enc : TypeId × Value → H) :
    ReturnsInHanded {} Tryz.checked os 3 .any (fun w args => (Rows.modelKeepsSpec.pre enc Tryz.prog Tryz.f3 Rows.modelKeepsRow.domain false w args ∧ laidMetH Tryz.prog Rows.modelKeepsRow.laid w) ∧ sizedMet enc Tryz.prog Tryz.f3 (OpenSpec.ofChange Rows.modelKeepsSpec) false w args) (Rows.modelKeepsSpec.post enc Tryz.prog Tryz.f3 false true false false) := by
  refine law_step_laid (C := Tryz.checked) (tb := 4) (by kernel_rfl) (by kernel_rfl) started (by kernel_rfl) Tryz.func3 rfl Tryz.underlying4 rfl ?_ ?_
    (ChangeSpec.witness_shaped (enc := enc) (C := Tryz.checked) (os := os) (X := fun w _ => laidMetH Tryz.prog Rows.modelKeepsRow.laid w) false (World.laidAll Tryz.prog os Rows.modelKeepsRow.laid) #[.slice none 0 0, .slice none 0 0, .string ByteArray.empty] 8 (World.laidAll_os _ _ _)
      (World.shaped_of_ZipB (by kernel_rfl) (by kernel_rfl)) (by kernel_rfl) (by kernel_rfl) (by kernel_rfl)
      (by rw [MakeChecks.laidMetH_plain _ _ _ (by kernel_rfl)]; exact laidMet_laidAll _ (by kernel_rfl) (by kernel_rfl))) ?_
  · intro ds hl
    match ds, hl with
    | [d0, d1, d2], _ => rfl
  · intro t ht
    rw [show Tryz.f3.params.toList = [22, 22, 9] from by rw [Tryz.params3]] at ht
    simp only [List.mem_cons, List.not_mem_nil, or_false] at ht
    rcases ht with rfl | rfl | rfl
    · exact ⟨by kernel_rfl, of_decide_eq_true (by kernel_rfl)⟩
    · exact ⟨by kernel_rfl, of_decide_eq_true (by kernel_rfl)⟩
    · exact ⟨by kernel_rfl, of_decide_eq_true (by kernel_rfl)⟩
  · intro W args hG
    rw [show Tryz.f3.params.toList = [22, 22, 9] from by rw [Tryz.params3]] at hG
    obtain ⟨v0, v1, v2, rfl, g0, g1, g2⟩ := gotAll_args3 hG
    obtain ⟨a0, cap0, l0, rfl, hle0, hcm0, hV0, hQ0⟩ := got_calls g0
    obtain ⟨a1, cap1, l1, rfl, hle1, hcm1, hV1, hQ1⟩ := got_calls g1
    obtain ⟨a2, rfl, b2⟩ := got_string Tryz.underlying9 g2
    exact walk_modelKeeps W a0 cap0 l0 hle0 hcm0 hV0 hQ0 a1 cap1 l1 hle1 hcm1 hV1 hQ1 a2 b2

theorem modelKeeps_over : Rows.modelKeepsRow.holds Tryz.pinned (OpenSpec.ofChange Rows.modelKeepsSpec) :=
  OpenClaim.holds_of_wide 3 Tryz.f3 rfl rfl rfl rfl rfl rfl rfl ⟨rfl, rfl, rfl, rfl, rfl⟩ rfl rfl rfl rfl rfl (by kernel_rfl) Tryz.func3 (by kernel_rfl)
    (of_decide_eq_true (by kernel_rfl)) (by unfold Func.isWrapper; first | (rw [if_pos (by decide +kernel)]; kernel_rfl) | (rw [if_neg (by decide +kernel)]; exact ⟨rfl, rfl⟩))
    (fun os started H enc _ => lifted_modelKeeps os started H enc)

theorem modelKeeps_holds : Rows.ModelKeepsCardSaid :=
  Claim7.holds_tied_plain_at .later [] [.data, .pinned] true (true, "a2858bb3599f325511a5ea6afc3cb64a7205ceb57b21c251972803503bc7930f") true modelKeeps_over (fun _ h => by cases h) (by kernel_rfl) (fun _ h => by cases h) modelKeeps_row_tie rfl ⟨rfl, rfl⟩ (by kernel_rfl) rfl
    (fun f fn hf hfn => by
      obtain rfl : f = 3 := Option.some.inj ((show Tryz.prog.funcNamed "glissade/glissadelaw22.ModelKeeps" = some 3 by kernel_rfl).symm.trans hf) |>.symm
      obtain rfl : fn = Tryz.f3 := (Option.some.inj (Tryz.func3.symm.trans hfn)).symm
      exact ⟨by kernel_rfl, fun j t ht => by
        rw [Tryz.params3] at ht
        have hm : t ∈ [22, 22, 9] := by simpa using Array.mem_of_getElem? ht
        have hall : ([22, 22, 9].all fun u => !Tryz.prog.wantsStandIn u) = true := by kernel_rfl
        exact (show Tryz.prog.wantsStandIn t = false by simpa using List.all_eq_true.1 hall t hm)⟩)
    (by kernel_rfl)
#print axioms modelKeeps_holds

end Go.Proofs.YtppdihpobokfnaaGreatDoor
