/- For every input the law glissadelaw22.ModelTwo returns true; within the numbers of calls that the law itself asks; else it returns true at once; a tied card: two package variables of unicode/utf8 are laid as the text lays them; the card speaks of a pruned copy of the project. -/
import Derived.BigQuiet
import Derived.Deep.QuietTactic
import Derived.Deep.RegionHeld3
import Derived.SevenTiedAt
import Derived.Test.YtppdihpobokfnaaGreatDoorModW47
import Derived.Test.YtppdihpobokfnaaGreatDoorGJ
import Derived.Test.YtppdihpobokfnaaGreatDoorTie
import Derived.Test.YtppdihpobokfnaaGreatDoorCards
import Derived.Test.YtppdihpobokfnaaGreatDoorGBase
set_option linter.unusedVariables false
set_option linter.unusedSimpArgs false
set_option maxRecDepth 100000
namespace Go.Proofs.YtppdihpobokfnaaGreatDoor
open Go.RowKit Go.Joins

set_option maxHeartbeats 16000000 in
theorem walk_modelTwo (w : World) (a : Option Addr) (cap : Nat) (l : List Cl) (hle : l.length ≤ cap) (hcm : cap ≤ maxLen) (hV : ValG w a 7 (l.map callC)) (hQ : ∀ c ∈ l, ClOk c) (a2 : Option Addr) (cap2 : Nat) (l2 : List Cl) (hle2 : l2.length ≤ cap2) (hcm2 : cap2 ≤ maxLen) (hV2 : ValG w a2 7 (l2.map callC)) (hQ2 : ∀ c ∈ l2, ClOk c) :
    Calls Tryz.prog 9 #[.slice a l.length cap, .slice a2 l2.length cap2] w fun e w' => e = .returned (.bool true) ∧ Below w.heap.size w w' := by
  have HBY := Lib.hid (beyond22 a cap l 30 3000 w (by omega) (by omega) (by omega) hV)
  have HBY2 := Lib.hid (fun W (hb : Below w.heap.size w W) => beyond22 a2 cap2 l2 30 3000 W (by omega) (by omega) (by omega) (hV2.below hb))
  have HV := Lib.hid (And.intro hV hQ)
  have HV2 := Lib.hid (And.intro hV2 hQ2)
  clear hle hcm hV hQ hle2 hcm2 hV2 hQ2
  go_enter Tryz.func9, Tryz.ntmps9
  go_wp2_with fail
  refine HBY.out.mono ?_
  rintro e W ⟨⟨b, rfl, hlen⟩, hb⟩
  have B := Lib.hid hb
  have HLEN := Lib.hid hlen
  clear hb hlen HBY
  cases b with
  | true =>
    go_wp2_with fail
    refine (lives22 _).mono ?_
    rintro e W9 ⟨rfl, hb⟩
    have B9 := Lib.hid (B.out.trans (hb.mono B.out.size))
    clear hb
    go_wp2_with fail
    go_ret
    exact ⟨rfl, B9.out⟩
  | false =>
    have HL := Lib.hid (HLEN.out rfl)
    clear HLEN
    go_wp2_with fail
    refine (HBY2.out _ B.out).mono ?_
    rintro e W2 ⟨⟨b, rfl, hlen⟩, hb⟩
    have B2 := Lib.hid (B.out.trans (hb.mono B.out.size))
    have HLEN := Lib.hid hlen
    clear hb hlen HBY2 B
    try clear W
    cases b with
    | true =>
      go_wp2_with fail
      refine (lives22 _).mono ?_
      rintro e W9 ⟨rfl, hb⟩
      have B9 := Lib.hid (B2.out.trans (hb.mono B2.out.size))
      clear hb
      go_wp2_with fail
      go_ret
      exact ⟨rfl, B9.out⟩
    | false =>
      have HL2 := Lib.hid (HLEN.out rfl)
      clear HLEN
      have hll2 : (l2.length : Int) ≤ 1000 := by have := HL2.out; omega
      -- two models, and a clone
      have H0 := Lib.hid (Mls.none (rows := []) B2.out (fun p hp => by cases hp))
      have HP := Lib.hid (mls_played H0.out 16 ⟨by omega, by omega⟩ a cap l (HV.out.1.below B2.out) HV.out.2 (by have := HL.out; omega))
      go_wp2_with fail
      refine HP.out.mono ?_
      clear HP
      rintro e W3 ⟨q1, rfl, n1, m1, hM, hb⟩
      have H1 := Lib.hid (show Mls w W3 [q1] [] from hM)
      have HQ1 := Lib.hid (And.intro n1 m1)
      clear hM hb n1 m1 H0
      have HP := Lib.hid (mls_played H1.out 16 ⟨by omega, by omega⟩ a cap l (HV.out.1.below H1.out.below) HV.out.2 (by have := HL.out; omega))
      go_wp2_with fail
      refine HP.out.mono ?_
      clear HP
      rintro e W4 ⟨q2, rfl, n2, m2, hM, hb⟩
      have H2 := Lib.hid (show Mls w W4 [q1, q2] [] from hM)
      have HQ2 := Lib.hid (And.intro n2 m2)
      clear hM hb n2 m2 H1 B2
      try clear W2 W3
      have HP := Lib.hid (mls_clone H2.out (p := q1) (by simp))
      go_wp2_with fail
      refine HP.out.mono ?_
      clear HP
      rintro e W5 ⟨R3, rfl, hM, hb⟩
      obtain ⟨N, m, hNN, e1, e2⟩ : ∃ N m, N ≤ 1000 ∧ q1 = ⟨q1.R, N, m⟩ ∧ q2 = ⟨q2.R, N, m⟩ := ⟨l.length, playP (newP 16) l, by have := HL.out; omega, by rw [← HQ1.out.1, ← HQ1.out.2], by rw [← HQ2.out.1, ← HQ2.out.2]⟩
      obtain ⟨R1, hR1⟩ : ∃ R, R = q1.R := ⟨_, rfl⟩
      obtain ⟨R2, hR2⟩ : ∃ R, R = q2.R := ⟨_, rfl⟩
      rw [← hR1] at e1
      rw [← hR2] at e2
      have H3 : Hid (Mls w W5 [⟨R1, N, m⟩, ⟨R2, N, m⟩, ⟨R3, N, m⟩] []) := by
        have h9 : Mls w W5 [q1, q2, ⟨R3, q1.N, q1.m⟩] [] := hM
        rw [e1, e2] at h9
        exact h9
      rw [← hR1, ← hR2]
      have HNN := Lib.hid hNN
      clear hM hb e1 e2 hR1 hR2 H2 HQ1 HQ2 HV hNN
      clear q1 q2
      try clear W4
      -- what is seen of the first, and what is open
      have HP := Lib.hid (mls_view H3.out (p := ⟨R1, N, m⟩) (by simp) (by have := HNN.out; show N ≤ 20000; omega))
      go_wp2_with fail
      refine HP.out.mono ?_
      clear HP
      rintro e W6 ⟨av, cv, rw6, rfl, hM, hs, hg⟩
      have H4 := Lib.hid (show Mls w W6 [⟨R1, N, m⟩, ⟨R2, N, m⟩, ⟨R3, N, m⟩] rw6 ∧ GIn rw6 av itC (viewP m) from ⟨hM, hg⟩)
      clear hM hs hg H3
      try clear W5
      have HP := Lib.hid (mls_opened H4.out.1 (p := ⟨R1, N, m⟩) (by simp) (by have := HNN.out; show N ≤ 20000; omega))
      go_wp2_with fail
      refine HP.out.mono ?_
      clear HP
      rintro e W7 ⟨ao, co, rw7, rfl, hM, hs, hg⟩
      have H5 := Lib.hid (show Mls w W7 [⟨R1, N, m⟩, ⟨R2, N, m⟩, ⟨R3, N, m⟩] rw7 ∧ GIn rw7 av itC (viewP m) ∧ GIn rw7 ao opC (openedP m) from ⟨hM, H4.out.2.more hs, hg⟩)
      clear hM hs hg H4
      try clear W6
      obtain ⟨B1, hB1⟩ : ∃ b, b = R1.mb := ⟨_, rfl⟩
      obtain ⟨B2, hB2⟩ : ∃ b, b = R2.mb := ⟨_, rfl⟩
      obtain ⟨B3, hB3⟩ : ∃ b, b = R3.mb := ⟨_, rfl⟩
      rw [← hB1, ← hB2, ← hB3]
      have HB := Lib.hid (And.intro hB1 (And.intro hB2 hB3))
      clear hB1 hB2 hB3
      go_wp2_with fail
      go_loopw [10] (fun jj wr => ∃ (k : Nat) (Ra Rb Rc : Rp) (rs : List (Nat × List Value)), k ≤ l2.length ∧ jj = .int .i64 (k : Int) ∧ Hid ((Mls w wr [⟨Ra, N, m⟩, ⟨Rb, N + k, playP m (l2.take k)⟩, ⟨Rc, N + k, playP m (l2.take k)⟩] rs ∧ GIn rs av itC (viewP m) ∧ GIn rs ao opC (openedP m)) ∧ Ra.mb = B1 ∧ Rb.mb = B2 ∧ Rc.mb = B3)) (fun jj _ => l2.length - (intOf jj).toNat)
      case atStart => exact ⟨0, R1, R2, R3, rw7, by omega, rfl, Lib.hid ⟨H5.out, HB.out.1.symm, HB.out.2.1.symm, HB.out.2.2.symm⟩⟩
      case round =>
        obtain ⟨k, Ra, Rb, Rc, rs, hk, rfl, HR⟩ := hrel
        by_cases hlt : k < l2.length
        · obtain ⟨x, hx⟩ : ∃ x, l2[k]? = some x := ⟨_, List.getElem?_eq_getElem hlt⟩
          obtain ⟨P, o, rfl, hP, _⟩ := (HV2.out.1.below HR.out.1.1.below).at (i := k) (xs := callC x) (by rw [List.getElem?_map, hx]; rfl)
          have HCL := Lib.hid (fun W (hb : Below w.heap.size w W) => cl_cells (HV2.out.1.below hb) hx)
          obtain ⟨c0, c1, c2, c3, c4, c5, c6⟩ := HCL.out _ HR.out.1.1.below
          have i1 : (k : Int) < (l2.length : Int) := by omega
          have i2 : (0 : Int) ≤ (k : Int) := by omega
          have HXW := Lib.hid (HV2.out.2 x (List.mem_of_getElem? hx)).wf
          have HST := Lib.hid (show playP m (l2.take (k + 1)) = (doP (playP m (l2.take k)) x).2 by rw [take_one hx, playP_snoc])
          obtain ⟨A, m2, hA⟩ : ∃ A m2, doP (playP m (l2.take k)) x = (A, m2) := ⟨_, _, rfl⟩
          obtain ⟨ns, hns⟩ : ∃ ns, ns = A.names.map tx := ⟨_, rfl⟩
          have HAL := Lib.hid (show ns.length ≤ 1000000 ∧ A.lens.length ≤ 1000000 from by
            have h1 : A.names.length ≤ N + k ∧ A.lens.length ≤ 1 := by
              have h0 := ans_names_le (HR.out.1.1.inv ⟨Rb, N + k, playP m (l2.take k)⟩ (by simp)) x
              rw [hA] at h0
              exact h0
            rw [hns, List.length_map]
            have := HNN.out; have := HL2.out
            exact ⟨by have := h1.1; omega, by have := h1.2; omega⟩)
          have H6 := Lib.hid (mls_do2 HR.out.1.1.drew (i := 2) rfl (by have := HNN.out; have := HL2.out; show N + k ≤ 900000; omega) x HXW.out B3 HR.out.2.2.2 A m2 hA ns hns)
          have H7 := Lib.hid (fun (W5 : World) (R5 : Rp) (rows5 : List (Nat × List Value)) (h : Mls w W5 [⟨Ra, N, m⟩, ⟨Rb, N + k, playP m (l2.take k)⟩, ⟨R5, N + k + 1, m2⟩] rows5) => mls_do2 h (i := 1) rfl (by have := HNN.out; have := HL2.out; show N + k ≤ 900000; omega) x HXW.out B2 HR.out.2.2.1 A m2 hA ns hns)
          rw [hA] at HST
          have HLT := Lib.hid (show k + 1 ≤ l2.length from hlt)
          clear hx hlt hA hns hP
          obtain ⟨Ae, An, Ad, Anm, ⟨sk, ss, sl, sp⟩, Al⟩ := A
          simp only at H6 H7 HAL
          go_upto_region 12 with fail
          go_region_law (first
            | (go_simp; go_at_call_of 15 (Value.pointer (some ⟨B3, 0, none⟩)); refine H6.out.mono ?_; rintro e W5 ⟨na, la, nc, lc, R5, rows5, rfl, hmb5, hM5, hs5, hn5, hl5⟩; have H8 := Lib.hid (show (Mls w W5 [⟨Ra, N, m⟩, ⟨Rb, N + k, playP m (l2.take k)⟩, ⟨R5, N + k + 1, m2⟩] rows5) ∧ R5.mb = B3 ∧ RSub rs rows5 ∧ LsIn rows5 (.slice na ns.length nc) (strs ns) ∧ LsIn rows5 (.slice la Al.length lc) (Al.map (Value.int .i64)) from ⟨hM5, hmb5, hs5, hn5, hl5⟩); obtain ⟨d0, d1, d2, d3, d4, d5, d6⟩ := HCL.out _ H8.out.1.below; clear hmb5 hM5 hs5 hn5 hl5)
            | (go_simp; go_at_call_of 15 (Value.pointer (some ⟨B2, 0, none⟩)); refine (H7.out _ _ _ H8.out.1).mono ?_; rintro e W6 ⟨nb, lb, nd, ld, R6, rows6, rfl, hmb6, hM6, hs6, hn6, hl6⟩; have H9 := Lib.hid (show (Mls w W6 [⟨Ra, N, m⟩, ⟨R6, N + k + 1, m2⟩, ⟨R5, N + k + 1, m2⟩] rows6) ∧ R6.mb = B2 ∧ RSub rows5 rows6 ∧ LsIn rows6 (.slice nb ns.length nd) (strs ns) ∧ LsIn rows6 (.slice lb Al.length ld) (Al.map (Value.int .i64)) from ⟨hM6, hmb6, hs6, hn6, hl6⟩); clear hmb6 hM6 hs6 hn6 hl6)
            | (go_simp; go_at_call 17; refine (same_answer Ae An (tx Ad) sk ss sl sp ns Al na nb la lb nc nd lc ld _ HAL.out.1 HAL.out.2 (H9.out.1.val (H8.out.2.2.2.1.more H9.out.2.2.1)) (H9.out.1.val H9.out.2.2.2.1) (H9.out.1.val (H8.out.2.2.2.2.more H9.out.2.2.1)) (H9.out.1.val H9.out.2.2.2.2)).mono ?_; rintro e W7 ⟨rfl, b7⟩))
          all_goals
            have HE := Lib.hid (H9.out.1.under b7)
            clear b7
            go_wp2_with fail
            go_roundw
            case rel => exact ⟨k + 1, Ra, R6, R5, rows6, HLT.out, by go_num, Lib.hid ⟨⟨by rw [HST.out]; exact HE.out, HR.out.1.2.1.more (H8.out.2.2.1.trans H9.out.2.2.1), HR.out.1.2.2.more (H8.out.2.2.1.trans H9.out.2.2.1)⟩, HR.out.2.1, H9.out.2.1, H8.out.2.1⟩⟩
            case measure => simp [intOf] <;> omega
        · obtain rfl : k = l2.length := by omega
          have hnl : ¬ ((l2.length : Int) < (l2.length : Int)) := by omega
          obtain ⟨N2, m2, hN2, hM, hb1, hb2, hb3⟩ : ∃ N2 m2, N2 ≤ 2000 ∧ (Mls w wr [⟨Ra, N, m⟩, ⟨Rb, N2, m2⟩, ⟨Rc, N2, m2⟩] rs ∧ GIn rs av itC (viewP m) ∧ GIn rs ao opC (openedP m)) ∧ Ra.mb = B1 ∧ Rb.mb = B2 ∧ Rc.mb = B3 := ⟨_, _, by have := HNN.out; have := HL2.out; omega, HR.out.1, HR.out.2.1, HR.out.2.2.1, HR.out.2.2.2⟩
          have G0 := Lib.hid hM
          have HN2 := Lib.hid hN2
          have HBB := Lib.hid (And.intro hb1 (And.intro hb2 hb3))
          have HI1 := Lib.hid (hM.1.inv ⟨Ra, N, m⟩ (by simp))
          have HI2 := Lib.hid (hM.1.inv ⟨Rb, N2, m2⟩ (by simp))
          have HVL1 := Lib.hid (show (viewP m).length ≤ 1000000 from by have := view_len (show Inv N Nul m from HI1.out); have := HNN.out; omega)
          have HVL2 := Lib.hid (show (viewP m2).length ≤ 1000000 from by have := view_len (show Inv N2 Nul m2 from HI2.out); have := HN2.out; omega)
          have HOL1 := Lib.hid (show (openedP m).length ≤ 1000000 from by have := opened_len m; omega)
          have HOL2 := Lib.hid (show (openedP m2).length ≤ 1000000 from by have := opened_len m2; omega)
          clear hM hN2 hb1 hb2 hb3 HR H5 HV2
          have HP := Lib.hid (mls_view G0.out.1 (p := ⟨Ra, N, m⟩) (by simp) (by have := HNN.out; have := HN2.out; show N ≤ 20000; omega))
          rw [show (Ml.mk Ra N m).R.mb = B1 from HBB.out.1] at HP
          go_wp2_with fail
          refine HP.out.mono ?_
          clear HP
          rintro e W1 ⟨xa1, xc1, r1, rfl, hM, hs, hg⟩
          have G1 := Lib.hid (show Mls w W1 [⟨Ra, N, m⟩, ⟨Rb, N2, m2⟩, ⟨Rc, N2, m2⟩] r1 ∧ GIn r1 av itC (viewP m) ∧ GIn r1 ao opC (openedP m) ∧ GIn r1 xa1 itC (viewP m) from ⟨hM, (G0.out.2.1).more hs, (G0.out.2.2).more hs, hg⟩)
          clear hM hs hg G0
          go_wp2_with fail
          refine (same_view xa1 av xc1 cv (viewP m) _ HVL1.out (G1.out.1.valG itC_len G1.out.2.2.2) (G1.out.1.valG itC_len G1.out.2.1)).mono ?_
          rintro e W2 ⟨rfl, hb⟩
          have G2 := Lib.hid (show Mls w W2 [⟨Ra, N, m⟩, ⟨Rb, N2, m2⟩, ⟨Rc, N2, m2⟩] r1 ∧ GIn r1 ao opC (openedP m) from ⟨G1.out.1.under hb, G1.out.2.2.1⟩)
          clear hb G1
          have HP := Lib.hid (mls_opened G2.out.1 (p := ⟨Ra, N, m⟩) (by simp) (by have := HNN.out; have := HN2.out; show N ≤ 20000; omega))
          rw [show (Ml.mk Ra N m).R.mb = B1 from HBB.out.1] at HP
          go_wp2_with fail
          refine HP.out.mono ?_
          clear HP
          rintro e W3 ⟨xa2, xc2, r3, rfl, hM, hs, hg⟩
          have G3 := Lib.hid (show Mls w W3 [⟨Ra, N, m⟩, ⟨Rb, N2, m2⟩, ⟨Rc, N2, m2⟩] r3 ∧ GIn r3 ao opC (openedP m) ∧ GIn r3 xa2 opC (openedP m) from ⟨hM, (G2.out.2).more hs, hg⟩)
          clear hM hs hg G2
          go_wp2_with fail
          refine (same_opened xa2 ao xc2 co (openedP m) _ HOL1.out (G3.out.1.valG (fun _ => rfl) G3.out.2.2) (G3.out.1.valG (fun _ => rfl) G3.out.2.1)).mono ?_
          rintro e W4 ⟨rfl, hb⟩
          have G4 := Lib.hid (show Mls w W4 [⟨Ra, N, m⟩, ⟨Rb, N2, m2⟩, ⟨Rc, N2, m2⟩] r3 from G3.out.1.under hb)
          clear hb G3
          have HP := Lib.hid (mls_view G4.out (p := ⟨Rc, N2, m2⟩) (by simp) (by have := HNN.out; have := HN2.out; show N2 ≤ 20000; omega))
          rw [show (Ml.mk Rc N2 m2).R.mb = B3 from HBB.out.2.2] at HP
          go_wp2_with fail
          refine HP.out.mono ?_
          clear HP
          rintro e W5 ⟨xa3, xc3, r5, rfl, hM, hs, hg⟩
          have G5 := Lib.hid (show Mls w W5 [⟨Ra, N, m⟩, ⟨Rb, N2, m2⟩, ⟨Rc, N2, m2⟩] r5 ∧ GIn r5 xa3 itC (viewP m2) from ⟨hM, hg⟩)
          clear hM hs hg G4
          have HP := Lib.hid (mls_view G5.out.1 (p := ⟨Rb, N2, m2⟩) (by simp) (by have := HNN.out; have := HN2.out; show N2 ≤ 20000; omega))
          rw [show (Ml.mk Rb N2 m2).R.mb = B2 from HBB.out.2.1] at HP
          go_wp2_with fail
          refine HP.out.mono ?_
          clear HP
          rintro e W6 ⟨xa4, xc4, r6, rfl, hM, hs, hg⟩
          have G6 := Lib.hid (show Mls w W6 [⟨Ra, N, m⟩, ⟨Rb, N2, m2⟩, ⟨Rc, N2, m2⟩] r6 ∧ GIn r6 xa3 itC (viewP m2) ∧ GIn r6 xa4 itC (viewP m2) from ⟨hM, (G5.out.2).more hs, hg⟩)
          clear hM hs hg G5
          go_wp2_with fail
          refine (same_view xa3 xa4 xc3 xc4 (viewP m2) _ HVL2.out (G6.out.1.valG itC_len G6.out.2.1) (G6.out.1.valG itC_len G6.out.2.2)).mono ?_
          rintro e W7 ⟨rfl, hb⟩
          have G7 := Lib.hid (show Mls w W7 [⟨Ra, N, m⟩, ⟨Rb, N2, m2⟩, ⟨Rc, N2, m2⟩] r6 from G6.out.1.under hb)
          clear hb G6
          have HP := Lib.hid (mls_opened G7.out (p := ⟨Rc, N2, m2⟩) (by simp) (by have := HNN.out; have := HN2.out; show N2 ≤ 20000; omega))
          rw [show (Ml.mk Rc N2 m2).R.mb = B3 from HBB.out.2.2] at HP
          go_wp2_with fail
          refine HP.out.mono ?_
          clear HP
          rintro e W8 ⟨xa5, xc5, r8, rfl, hM, hs, hg⟩
          have G8 := Lib.hid (show Mls w W8 [⟨Ra, N, m⟩, ⟨Rb, N2, m2⟩, ⟨Rc, N2, m2⟩] r8 ∧ GIn r8 xa5 opC (openedP m2) from ⟨hM, hg⟩)
          clear hM hs hg G7
          have HP := Lib.hid (mls_opened G8.out.1 (p := ⟨Rb, N2, m2⟩) (by simp) (by have := HNN.out; have := HN2.out; show N2 ≤ 20000; omega))
          rw [show (Ml.mk Rb N2 m2).R.mb = B2 from HBB.out.2.1] at HP
          go_wp2_with fail
          refine HP.out.mono ?_
          clear HP
          rintro e W9 ⟨xa6, xc6, r9, rfl, hM, hs, hg⟩
          have G9 := Lib.hid (show Mls w W9 [⟨Ra, N, m⟩, ⟨Rb, N2, m2⟩, ⟨Rc, N2, m2⟩] r9 ∧ GIn r9 xa5 opC (openedP m2) ∧ GIn r9 xa6 opC (openedP m2) from ⟨hM, (G8.out.2).more hs, hg⟩)
          clear hM hs hg G8
          go_wp2_with fail
          refine (same_opened xa5 xa6 xc5 xc6 (openedP m2) _ HOL2.out (G9.out.1.valG (fun _ => rfl) G9.out.2.1) (G9.out.1.valG (fun _ => rfl) G9.out.2.2)).mono ?_
          rintro e W10 ⟨rfl, hb⟩
          have G10 := Lib.hid (show Mls w W10 [⟨Ra, N, m⟩, ⟨Rb, N2, m2⟩, ⟨Rc, N2, m2⟩] r9 from G9.out.1.under hb)
          clear hb G9
          have B := Lib.hid G10.out.below
          clear G10
          go_wp2_with fail
          refine (lives22 _).mono ?_
          rintro e W11 ⟨rfl, hb⟩
          have B9 := Lib.hid (B.out.trans (hb.mono B.out.size))
          clear hb
          go_wp2_with fail
          go_ret
          exact ⟨rfl, B9.out⟩

/-! ### the frame (printed by mklaw.py) -/

set_option maxRecDepth 100000 in
theorem lifted_modelTwo (os : Os) (started : os.Started) (H : Type) (enc : TypeId × Value → H) :
    ReturnsInHanded {} Tryz.checked os 9 .any (fun w args => (Rows.modelTwoSpec.pre enc Tryz.prog Tryz.f9 Rows.modelTwoRow.domain false w args ∧ laidMetH Tryz.prog Rows.modelTwoRow.laid w) ∧ sizedMet enc Tryz.prog Tryz.f9 (OpenSpec.ofChange Rows.modelTwoSpec) false w args) (Rows.modelTwoSpec.post enc Tryz.prog Tryz.f9 false true false false) := by
  refine law_step_laid (C := Tryz.checked) (tb := 4) (by kernel_rfl) (by kernel_rfl) started (by kernel_rfl) Tryz.func9 rfl Tryz.underlying4 rfl ?_ ?_
    (ChangeSpec.witness_shaped (enc := enc) (C := Tryz.checked) (os := os) (X := fun w _ => laidMetH Tryz.prog Rows.modelTwoRow.laid w) false (World.laidAll Tryz.prog os Rows.modelTwoRow.laid) #[.slice none 0 0, .slice none 0 0] 8 (World.laidAll_os _ _ _)
      (World.shaped_of_ZipB (by kernel_rfl) (by kernel_rfl)) (by kernel_rfl) (by kernel_rfl) (by kernel_rfl)
      (by rw [MakeChecks.laidMetH_plain _ _ _ (by kernel_rfl)]; exact laidMet_laidAll _ (by kernel_rfl) (by kernel_rfl))) ?_
  · intro ds hl
    match ds, hl with
    | [d0, d1], _ => rfl
  · intro t ht
    rw [show Tryz.f9.params.toList = [22, 22] from by rw [Tryz.params9]] at ht
    simp only [List.mem_cons, List.not_mem_nil, or_false] at ht
    rcases ht with rfl | rfl
    · exact ⟨by kernel_rfl, of_decide_eq_true (by kernel_rfl)⟩
    · exact ⟨by kernel_rfl, of_decide_eq_true (by kernel_rfl)⟩
  · intro W args hG
    rw [show Tryz.f9.params.toList = [22, 22] from by rw [Tryz.params9]] at hG
    obtain ⟨v0, v1, rfl, g0, g1⟩ := gotAll_args2 hG
    obtain ⟨a0, cap0, l0, rfl, hle0, hcm0, hV0, hQ0⟩ := got_calls g0
    obtain ⟨a1, cap1, l1, rfl, hle1, hcm1, hV1, hQ1⟩ := got_calls g1
    exact walk_modelTwo W a0 cap0 l0 hle0 hcm0 hV0 hQ0 a1 cap1 l1 hle1 hcm1 hV1 hQ1

theorem modelTwo_over : Rows.modelTwoRow.holds Tryz.pinned (OpenSpec.ofChange Rows.modelTwoSpec) :=
  OpenClaim.holds_of_wide 9 Tryz.f9 rfl rfl rfl rfl rfl rfl rfl ⟨rfl, rfl, rfl, rfl, rfl⟩ rfl rfl rfl rfl rfl (by kernel_rfl) Tryz.func9 (by kernel_rfl)
    (of_decide_eq_true (by kernel_rfl)) (by unfold Func.isWrapper; first | (rw [if_pos (by decide +kernel)]; kernel_rfl) | (rw [if_neg (by decide +kernel)]; exact ⟨rfl, rfl⟩))
    (fun os started H enc _ => lifted_modelTwo os started H enc)

theorem modelTwo_holds : Rows.ModelTwoCardSaid :=
  Claim7.holds_tied_plain_at .later [] [.data, .pinned] true (true, "a2858bb3599f325511a5ea6afc3cb64a7205ceb57b21c251972803503bc7930f") true modelTwo_over (fun _ h => by cases h) (by kernel_rfl) (fun _ h => by cases h) modelTwo_row_tie rfl ⟨rfl, rfl⟩ (by kernel_rfl) rfl
    (fun f fn hf hfn => by
      obtain rfl : f = 9 := Option.some.inj ((show Tryz.prog.funcNamed "glissade/glissadelaw22.ModelTwo" = some 9 by kernel_rfl).symm.trans hf) |>.symm
      obtain rfl : fn = Tryz.f9 := (Option.some.inj (Tryz.func9.symm.trans hfn)).symm
      exact ⟨by kernel_rfl, fun j t ht => by
        rw [Tryz.params9] at ht
        have hm : t ∈ [22, 22] := by simpa using Array.mem_of_getElem? ht
        have hall : ([22, 22].all fun u => !Tryz.prog.wantsStandIn u) = true := by kernel_rfl
        exact (show Tryz.prog.wantsStandIn t = false by simpa using List.all_eq_true.1 hall t hm)⟩)
    (by kernel_rfl)
#print axioms modelTwo_holds

end Go.Proofs.YtppdihpobokfnaaGreatDoor
