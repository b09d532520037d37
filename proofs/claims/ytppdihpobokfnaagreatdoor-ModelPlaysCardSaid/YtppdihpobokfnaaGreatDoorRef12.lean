/- A part of a proof. -/
import Derived.Test.YtppdihpobokfnaaGreatDoorGR2
set_option linter.unusedVariables false
set_option linter.unusedSimpArgs false
set_option maxRecDepth 100000
namespace Go.Proofs.YtppdihpobokfnaaGreatDoor
open Go.RowKit Go.Joins
theorem liesR_stop {r : RM} {inn f k : Nat} (h : ¬ (k ≠ inn ∧ k ≠ 0)) : liesR r inn f k = (k == inn) := by
 cases f with
 | zero => rfl
 | succ f => rw [liesR, if_neg h]
set_option maxHeartbeats 4000000 in
theorem r22lies (Q : Rr) (r : RM) (k0 inn : Nat) (w : World) (h : DocAt w Q r) (hn : r.nodes.length ≤ 1000000) (hm : r.ents.length ≤ 1000000) :
  Calls Tryz.prog 114 #[.pointer (some ⟨Q.b, 0, none⟩), .int .i64 (k0 : Int), .int .i64 (inn : Int)] w fun e w' => e = .returned (.bool (liesR r inn (r.nodes.length + 1) k0)) ∧ w = w' := by
 have HP := Lh (fun k => r22parent Q r k w h hm)
 obtain ⟨_, _, e2, _, _⟩ := h.cells
 obtain ⟨an, cn, hvn⟩ := own_form5 h.nodes
 rw [hvn] at e2
 have hbl := h.row.lt
 have hn1 : (r.nodes.length : Int) ≤ 1000000 := by omega
 clear h hvn hn hm
 go_enter Tryz.func114, Tryz.ntmps114
 go_wp2_with fail
 go_loopw [1, 7] (fun kk ii wr => ∃ (i k : Nat), i ≤ r.nodes.length + 1 ∧ kk = .int .i64 (k : Int) ∧ ii = .int .i64 (i : Int) ∧ wr = w ∧ Hid (liesR r inn (r.nodes.length + 1) k0 = liesR r inn (r.nodes.length + 1 - i) k)) (fun _ ii _ => r.nodes.length + 1 - (intOf ii).toNat)
 case atStart => exact ⟨0, k0, by omega, rfl, rfl, rfl, Lh rfl⟩
 case round =>
  obtain ⟨i, k, hi, rfl, rfl, rfl, HL⟩ := hrel
  by_cases hlt : i ≤ r.nodes.length
  · have i1 : (i : Int) ≤ (r.nodes.length : Int) := by omega
    by_cases c1 : k = inn
    · have b1 : ((k : Int) != (inn : Int)) = false := by rw [c1]; simp
      have b2 : ((k : Int) == (inn : Int)) = true := by rw [c1]; simp
      have HR : Hid (liesR r inn (r.nodes.length + 1) k0 = true) := by show _ = _; rw [HL.out, liesR_stop (fun q => q.1 c1), c1]; simp
      clear c1
      go_wp2_with fail
      go_ret
      exact ⟨by rw [HR.out]; rfl, rfl⟩
    · have b1 : ((k : Int) != (inn : Int)) = true := by rw [bne_iff_ne]; omega
      have b2 : ((k : Int) == (inn : Int)) = false := by rw [beq_eq_false_iff_ne]; omega
      by_cases c2 : k = 0
      · have b3 : ((k : Int) != 0) = false := by rw [c2]; rfl
        have HR : Hid (liesR r inn (r.nodes.length + 1) k0 = false) := by show _ = _; rw [HL.out, liesR_stop (fun q => q.2 c2)]; simpa using c1
        clear c1 c2
        go_wp2_with fail
        go_ret
        exact ⟨by rw [HR.out]; rfl, rfl⟩
      · have b3 : ((k : Int) != 0) = true := by rw [bne_iff_ne]; omega
        have HN : Hid (liesR r inn (r.nodes.length + 1) k0 = liesR r inn (r.nodes.length + 1 - (i + 1)) (r.par k)) := by
         show _ = _
         rw [HL.out, show r.nodes.length + 1 - i = (r.nodes.length + 1 - (i + 1)) + 1 by omega, liesR, if_pos ⟨c1, c2⟩]
        clear c1 c2
        go_wp2_with fail
        refine (HP.out k).mono ?_
        rintro e w2 ⟨rfl, rfl⟩
        go_wp2_with fail
        go_roundw
        case rel => exact ⟨i + 1, r.par k, by omega, rfl, by go_num, trivial, HN⟩
        case measure => simp [intOf] <;> omega
  · have i1 : ¬ (i : Int) ≤ (r.nodes.length : Int) := by omega
    have HR : Hid (liesR r inn (r.nodes.length + 1) k0 = ((k : Int) == (inn : Int))) := by
     show _ = _
     rw [HL.out, show r.nodes.length + 1 - i = 0 by omega]
     show (k == inn) = _
     rw [Bool.eq_iff_iff, beq_iff_eq, beq_iff_eq]; omega
    go_wp2_with fail
    go_ret
    exact ⟨by rw [HR.out]; rfl, rfl⟩
theorem find_erase {α : Type} {p q : α → Bool} (h : ∀ x, q x = true → p x = false) : ∀ l : List α, (l.eraseP q).find? p = l.find? p
 | [] => rfl
 | a :: l => by
  cases hq : q a with
  | true => rw [List.eraseP_cons_of_pos hq, List.find?_cons, h a hq]
  | false => rw [List.eraseP_cons_of_neg (by rw [hq]; simp), List.find?_cons, List.find?_cons, find_erase h l]
theorem unname_ent {r : RM} {d d1 : Nat} {s s1 : Bs} {e e1 : RE} (h : r.ent d s = some e) (h1 : r.ent d1 s1 = some e1) (hne : e.node ≠ e1.node) : (unnameR r d1 s1).ent d s = some e := by
 rw [← h]
 show (r.ents.eraseP _).find? _ = r.ents.find? _
 refine find_erase (fun x hx => ?_) _
 by_cases c : d = d1 ∧ s = s1
 · obtain ⟨rfl, rfl⟩ := c
   rw [h] at h1; cases h1; exact absurd rfl hne
 · simp only [Bool.and_eq_true, beq_iff_eq] at hx
   obtain ⟨x1, x2⟩ := hx
   rw [Bool.and_eq_false_iff, beq_eq_false_iff_ne, beq_eq_false_iff_ne]
   by_cases c1 : d = d1
   · right; intro q; exact c ⟨c1, by rw [← q, x2]⟩
   · left; intro q; exact c1 (by rw [← q, x1])
set_option maxHeartbeats 16000000 in
theorem r22rename (Q : Rr) (r : RM) (c : Cl) (w : World) (h : DocAt w Q r) (hF : RFull r) (hm : r.ents.length ≤ 999999) (hp : c.p.size ≤ 100000) (ho : c.o.size ≤ 100000) :
  Calls Tryz.prog 72 #[.pointer (some ⟨Q.b, 0, none⟩), .agg #[.int .i64 c.k, .string c.p, .string c.o, .int .i64 c.fd, .int .i64 c.n, .string c.d, .bool c.on]] w (OpD w Q (renameR r c)) := by
 obtain ⟨⟨ad, an, asn⟩, zp, hq1⟩ : ∃ a z, placeR r (bts c.p) = (a, z) := ⟨_, _, rfl⟩
 obtain ⟨⟨bd, bn, bsn⟩, zo, hq2⟩ : ∃ a z, placeR r (bts c.o) = (a, z) := ⟨_, _, rfl⟩
 have HP1 := Lh (fun W (hW : DocAt W Q r) => hq1 ▸ r22place Q r c.p hp W hW hF)
 have HP2 := Lh (fun W (hW : DocAt W Q r) => hq2 ▸ r22place Q r c.o ho W hW hF)
 have HQ1 := Lh hq1
 have HQ2' := Lh hq2
 have HF := Lh hF
 have HFA := Lh (fun (h0 : zp = 0) => by have := place_facts hF (p := bts c.p) (by rw [hq1]; exact h0); rw [hq1] at this; exact this)
 have HFB := Lh (fun (h0 : zo = 0) => by have := place_facts hF (p := bts c.o) (by rw [hq2]; exact h0); rw [hq2] at this; exact this)
 unfold plT at HP1 HP2
 simp only at HP1 HP2 HFA HFB
 obtain ⟨iE, hi', hz0, hz1, hz2⟩ := info_parts info22E
 have HIE := Lh (And.intro hi' (And.intro hz0 (And.intro hz1 hz2)))
 have HLC := Lh (show r.ents.length ≤ 1000000 by omega)
 have HLM := Lh hm
 clear hq1 hq2 hF hi' hz0 hz1 hz2 hm
 have F0 := DFr.start h c 36 33
 clear h
 go_enter Tryz.func72, Tryz.ntmps72
 go_upto_region 1 with fail
 generalize (w.alloc (.cells #[.int .i64 c.k, .string c.p, .string c.o, .int .i64 c.fd, .int .i64 c.n, .string c.d, .bool c.on] 36)).alloc (.cells #[.int .i64 0, .int .i64 0, .string ⟨#[]⟩, .slice none 0 0, .int .i64 0, .int .i64 0, .int .i64 0, .bool false, .slice none 0 0, .bool false] 33) = W1 at *
 have F1 := Lh F0
 clear F0
 obtain ⟨a0, a1, a2, a3, a4, a5, a6⟩ := row7_cells F1.out.call
 go_wp2_with fail
 refine (HP1.out _ F1.out.doc).mono ?_
 rintro e W2 ⟨rfl, hb⟩
 have F2 := Lh (F1.out.below hb)
 clear hb F1 a0 a1 a2 a3 a4 a5 a6 HP1
 have hsz := F2.out.size
 by_cases hy : zp = 0
 · subst hy
   obtain ⟨hk1, hnode⟩ := HFA.out rfl
   rcases hnode with rfl | ⟨e1, he1, rfl⟩
   · have HR := Lh (show renameR r c = (failA 210, r) from by rw [renameR, HQ1.out]; simp)
     clear hk1
     go_wp2_with fail
     refine (r22fail _ _).mono ?_
     rintro e WF ⟨rfl, hb⟩
     have F3 := Lh (F2.out.below hb)
     clear hb F2
     obtain ⟨_, _, _, _, _, _, _, _, _, _, _, _, _, _, _, _, _, _, _, _⟩ := row10_all F3.out.ans
     unfold failV anV Stt.zero
     go_wp2_with fail
     refine fin10 Tryz.results72 rfl rfl F3.out.ans ?_
     · unfold OpD
       rw [HR.out]
       refine ⟨rfl, Q, ?_, rfl⟩
       repeat (refine DMid.other ?_ F3.out.nz (by omega) _ _)
       exact F3.out.mid
   · have HE1 := Lh he1
     have hng : ¬ (e1.node : Int) < 0 := by omega
     obtain ⟨xn, hxn⟩ : ∃ x, r.nd e1.node = some x := HF.out.enode e1 (List.mem_of_find?_eq_some he1)
     have HK := Lh (fun W (hW : DocAt W Q r) => r22kind Q r e1.node xn W hW HF.out.nodes hxn)
     obtain ⟨a0, a1, a2, a3, a4, a5, a6⟩ := row7_cells F2.out.call
     clear hk1 he1 hxn
     go_wp2_with fail
     refine (HP2.out _ F2.out.doc).mono ?_
     rintro e W4 ⟨rfl, hb⟩
     have F4 := Lh (F2.out.below hb)
     clear hb F2 a0 a1 a2 a3 a4 a5 a6 HP2 hsz
     have hsz := F4.out.size
     by_cases hz : zo = 0
     · subst hz
       obtain ⟨hkb, hnode⟩ := HFB.out rfl
       obtain ⟨xb, hxb⟩ := kind_two hkb
       have HLI := Lh (fun W (hW : DocAt W Q r) => r22lies Q r bd e1.node W hW HF.out.nodes HF.out.ents)
       have HLK := Lh (fun W (hW : DocAt W Q r) => r22links Q r bd xb W hW HF.out.nodes HF.out.ents hxb HF.out.enode)
       obtain ⟨kc, hk1, hkk⟩ := ent_at (s := tx asn) (by rw [tx_bts]; exact HE1.out)
       have HEC := Lh (And.intro hk1 hkk)
       have HLS := Lh (show (unnameR r ad asn).ents.length + 1 ≤ 1000000 from by have h1 : (unnameR r ad asn).ents.length ≤ r.ents.length := List.length_eraseP_le; have := HLM.out; omega)
       clear hkb hxb hk1 hkk
       rcases hnode with rfl | ⟨e2, he2, rfl⟩
       · have g1 : ((-1 : Int) == (e1.node : Int)) = false := by rw [beq_eq_false_iff_ne]; omega
         have g2 : ¬ (-1 : Int) = (e1.node : Int) := by omega
         go_wp2_with fail
         refine (HK.out _ F4.out.doc).mono ?_
         rintro e W5 ⟨rfl, m5, rfl⟩
         have F5 := Lh (F4.out.drewN m5)
         clear F4
         generalize World.drewN _ m5 = W5g at *
         by_cases hd : r.kind e1.node = 2
         · have q2 : (r.kind e1.node == 2) = true := by simpa using hd
           cases hli : liesR r e1.node (r.nodes.length + 1) bd with
           | true =>
            have HR := Lh (show renameR r c = (failA 216, r) from by rw [renameR, HQ1.out, HQ2'.out]; simp [if_neg (show ¬ (e1.node : Int) < 0 by omega), g2, hd, hli] <;> (intro q; exact absurd q (by omega)))
            rw [hli] at HLI
            clear hd hli
            go_wp2_with fail
            refine (HLI.out _ F5.out.doc).mono ?_
            rintro e W6 ⟨rfl, rfl⟩
            go_wp2_with fail
            refine (r22fail _ _).mono ?_
            rintro e WF ⟨rfl, hb⟩
            have F6 := Lh (F5.out.below hb)
            clear hb F5
            obtain ⟨_, _, _, _, _, _, _, _, _, _, _, _, _, _, _, _, _, _, _, _⟩ := row10_all F6.out.ans
            unfold failV anV Stt.zero
            go_wp2_with fail
            refine fin10 Tryz.results72 rfl rfl F6.out.ans ?_
            · unfold OpD
              rw [HR.out]
              refine ⟨rfl, Q, ?_, rfl⟩
              repeat (refine DMid.other ?_ F6.out.nz (by omega) _ _)
              exact F6.out.mid
           | false =>
            have HLIH := Lh hli
            rw [hli] at HLI
            by_cases hbd : bd = ad
            · have g3 : ((bd : Int) != (ad : Int)) = false := by rw [hbd]; simp
              have HR := Lh (show renameR r c = (An.zero, sweepR { unnameR (r) ad asn with ents := (unnameR (r) ad asn).ents ++ [⟨bd, bsn, e1.node⟩] }) from by rw [renameR, HQ1.out, HQ2'.out]; simp [if_neg (show ¬ (e1.node : Int) < 0 by omega), g2, hd, hli, hbd, hbd ▸ hli] <;> (intro q; exact absurd q (by omega)))
              clear hd hli hbd
              go_wp2_with fail
              refine (HLI.out _ F5.out.doc).mono ?_
              rintro e W6 ⟨rfl, rfl⟩
              have HUN := Lh (fun W (hW : DocAt W Q (r)) => r22unname Q (r) ad (tx asn) kc e1 W hW HLC.out HEC.out.1 HEC.out.2)
              rw [tx_bts] at HUN
              have HLU := Lh (show (unnameR (r) ad asn).ents.length ≤ 1000000 from Nat.le_trans (List.length_eraseP_le) HLC.out)
              go_wp2_with fail
              refine (HUN.out _ F5.out.doc).mono ?_
              rintro e WU ⟨rfl, hds⟩
              obtain ⟨QU, hQU, hmU⟩ := hds.mid
              have HQU : Hid (QU.b = Q.b) := hQU
              have FU := Lh (F5.out.then hmU)
              have HDU := Lh hmU.doc
              rw [show (Q).b = QU.b from hQU.symm]
              clear hds hmU F5 hQU hsz HUN
              obtain ⟨_, _, e2, e3, e4⟩ := HDU.out.cells
              obtain ⟨aX, cX, hvX⟩ := own_form5 HDU.out.ents
              have hbl := HDU.out.row.lt
              rw [hvX] at e3
              have HVX := Lh hvX
              have HOX := Lh (show (WU).ownsRow 0 148 3 (.slice aX ((unnameR (r) ad asn)).ents.length cX) ((unnameR (r) ad asn)).ents.length (((unnameR (r) ad asn)).ents.flatMap reC) from by have := HDU.out.ents; rw [hvX] at this; exact this)
              have HRX := Lh (rowAt_alloc (WU) #[.int .i64 (bd : Int), .string (tx bsn), .int .i64 (e1.node : Int)] 148)
              clear hvX
              go_wp2_with (at_builtin; refine wpList_append_own_at _ rfl _ _ 95 rfl 0 148 iE (.agg #[.int .i64 0, .string ⟨#[]⟩, .int .i64 0]) 3 32 Tryz.underlying95 HIE.out.1 HIE.out.2.1 HIE.out.2.2.1 HIE.out.2.2.2 rfl (by decide) _ ((unnameR (r) ad asn)).ents.length _ rfl (HOX.out.alloc _) ⟨(WU).heap.size, 0, none⟩ 1 1 [.int .i64 (bd : Int), .string (tx bsn), .int .i64 (e1.node : Int)] rfl rfl (row_newsX HRX.out) ?c2 ?c3 ?c4 (Nat.zero_le _) ?_)
              case c2 => first | ((repeat' apply And.intro) <;> rfl) | (intro u hu; simp at hu; rcases hu with rfl | rfl | rfl <;> rfl)
              case c3 => have := HLU.out; unfold maxLen; omega
              case c4 => have := HLU.out; omega
              intro vX wX ownX gX _ atX
              obtain ⟨aY, cY, rfl⟩ := own_formX ownX
              have HPX := Lh (DocAt.putE kinds3 (HDU.out.alloc (.cells #[.int .i64 (bd : Int), .string (tx bsn), .int .i64 (e1.node : Int)] 148)) (l := ((unnameR (r) ad asn)).ents ++ [⟨bd, bsn, e1.node⟩]) (by rw [List.length_append, List.flatMap_append]; have := ownX; first | exact this | (simp only [reC, rnC, rfC, List.flatMap_cons, List.flatMap_nil, List.append_nil, List.length_cons, List.length_nil] at *; (try rw [← HS.out, tx_back]); exact this)) (by rw [HVX.out]; exact gX) (by rw [HVX.out]; rcases atX with q | q; exact .inl q; exact .inr (fun k hk => by rw [q] at hk; cases hk; simp)))
              have fX := HPX.out.1.frozen 3 (by simp)
              have cX' := HPX.out.1.cell 3 (by simp)
              have lX := HPX.out.1.lt
              have HD2 := Lh (And.intro HPX.out.2.1 ((Turns.below ((Below.refl (WU).heap.size (WU)).alloc (Nat.le_refl _) (.cells #[.int .i64 (bd : Int), .string (tx bsn), .int .i64 (e1.node : Int)] 148))).trans HPX.out.2.2))
              clear ownX gX atX HPX HRX HOX e2 e3 e4 hbl
              have hszU := FU.out.size
              go_upto_region 27 with fail
              have hDX := HD2.out
              generalize hQY : (Rr.mk QU.b QU.vn _ QU.vf) = Q2 at hDX
              have hQX : Q2.b = QU.b := by rw [← hQY]
              have HD3 : Hid (DocAt _ Q2 ({ (unnameR (r) ad asn) with ents := (unnameR (r) ad asn).ents ++ [⟨bd, bsn, e1.node⟩] }) ∧ Turns QU.O Q2.O (WU) _) := hDX
              clear hQY
              clear hDX HD2 fX cX' lX HVX
              try clear HOX
              generalize World.setCell _ _ _ = W6 at *
              rw [← hQX]
              have HQ2 := Lh hQX
              clear hQX
              have FV := Lh (FU.out.then ⟨HD3.out.1, HD3.out.2⟩)
              clear FU hszU HDU
              have HSW := Lh (r22sweep Q2 ({ (unnameR (r) ad asn) with ents := (unnameR (r) ad asn).ents ++ [⟨bd, bsn, e1.node⟩] }) _ FV.out.doc HF.out.nodes (by show ((unnameR (r) ad asn).ents ++ [_]).length ≤ 1000000; rw [List.length_append]; have := HLS.out; exact this) (by have := HF.out.fds; show r.fds.length ≤ 1000000; omega))
              go_wp2_with fail
              refine HSW.out.mono ?_
              rintro e WV ⟨rfl, hds⟩
              obtain ⟨QV, hQV, hmV⟩ := hds.mid
              have HQV := Lh (hQV.trans (HQ2.out.trans HQU.out))
              have FW := Lh (FV.out.then hmV)
              clear hds hmV FV hQV HSW HD3
              have hsz := FW.out.size
              obtain ⟨_, _, _, _, _, _, _, _, _, _, _, _, _, _, _, _, _, _, _, _⟩ := row10_all FW.out.ans
              go_wp2_with fail
              refine fin10 Tryz.results72 rfl rfl FW.out.ans ?_
              · unfold OpD
                rw [HR.out]
                refine ⟨rfl, QV, ?_, HQV.out⟩
                repeat (refine DMid.other ?_ FW.out.nz (by omega) _ _)
                exact FW.out.mid
            · have g3 : ((bd : Int) != (ad : Int)) = true := by rw [bne_iff_ne]; omega
              by_cases hl : 100 ≤ r.links bd
              · have HR := Lh (show renameR r c = (failA 215, r) from by rw [renameR, HQ1.out, HQ2'.out]; simp [if_neg (show ¬ (e1.node : Int) < 0 by omega), g2, hd, hli, hbd, hl] <;> (intro q; exact absurd q (by omega)))
                clear hd hli hbd
                go_wp2_with fail
                refine (HLI.out _ F5.out.doc).mono ?_
                rintro e W6 ⟨rfl, rfl⟩
                go_wp2_with fail
                refine (HLK.out _ F5.out.doc).mono ?_
                rintro e W7 ⟨rfl, m7, rfl⟩
                have F6 := Lh (F5.out.drewN m7)
                clear F5
                generalize World.drewN _ m7 = W7g at *
                go_wp2_with fail
                refine (r22fail _ _).mono ?_
                rintro e WF ⟨rfl, hb⟩
                have F7 := Lh (F6.out.below hb)
                clear hb F6
                obtain ⟨_, _, _, _, _, _, _, _, _, _, _, _, _, _, _, _, _, _, _, _⟩ := row10_all F7.out.ans
                unfold failV anV Stt.zero
                go_wp2_with fail
                refine fin10 Tryz.results72 rfl rfl F7.out.ans ?_
                · unfold OpD
                  rw [HR.out]
                  refine ⟨rfl, Q, ?_, rfl⟩
                  repeat (refine DMid.other ?_ F7.out.nz (by omega) _ _)
                  exact F7.out.mid
              · have HR := Lh (show renameR r c = (An.zero, sweepR { unnameR (r) ad asn with ents := (unnameR (r) ad asn).ents ++ [⟨bd, bsn, e1.node⟩] }) from by rw [renameR, HQ1.out, HQ2'.out]; simp [if_neg (show ¬ (e1.node : Int) < 0 by omega), g2, hd, hli, hbd, hl] <;> (intro q; exact absurd q (by omega)))
                clear hd hli hbd
                go_wp2_with fail
                refine (HLI.out _ F5.out.doc).mono ?_
                rintro e W6 ⟨rfl, rfl⟩
                go_wp2_with fail
                refine (HLK.out _ F5.out.doc).mono ?_
                rintro e W7 ⟨rfl, m7, rfl⟩
                have F6 := Lh (F5.out.drewN m7)
                clear F5
                generalize World.drewN _ m7 = W7g at *
                have HUN := Lh (fun W (hW : DocAt W Q (r)) => r22unname Q (r) ad (tx asn) kc e1 W hW HLC.out HEC.out.1 HEC.out.2)
                rw [tx_bts] at HUN
                have HLU := Lh (show (unnameR (r) ad asn).ents.length ≤ 1000000 from Nat.le_trans (List.length_eraseP_le) HLC.out)
                go_wp2_with fail
                refine (HUN.out _ F6.out.doc).mono ?_
                rintro e WU ⟨rfl, hds⟩
                obtain ⟨QU, hQU, hmU⟩ := hds.mid
                have HQU : Hid (QU.b = Q.b) := hQU
                have FU := Lh (F6.out.then hmU)
                have HDU := Lh hmU.doc
                rw [show (Q).b = QU.b from hQU.symm]
                clear hds hmU F6 hQU hsz HUN
                obtain ⟨_, _, e2, e3, e4⟩ := HDU.out.cells
                obtain ⟨aX, cX, hvX⟩ := own_form5 HDU.out.ents
                have hbl := HDU.out.row.lt
                rw [hvX] at e3
                have HVX := Lh hvX
                have HOX := Lh (show (WU).ownsRow 0 148 3 (.slice aX ((unnameR (r) ad asn)).ents.length cX) ((unnameR (r) ad asn)).ents.length (((unnameR (r) ad asn)).ents.flatMap reC) from by have := HDU.out.ents; rw [hvX] at this; exact this)
                have HRX := Lh (rowAt_alloc (WU) #[.int .i64 (bd : Int), .string (tx bsn), .int .i64 (e1.node : Int)] 148)
                clear hvX
                go_wp2_with (at_builtin; refine wpList_append_own_at _ rfl _ _ 95 rfl 0 148 iE (.agg #[.int .i64 0, .string ⟨#[]⟩, .int .i64 0]) 3 32 Tryz.underlying95 HIE.out.1 HIE.out.2.1 HIE.out.2.2.1 HIE.out.2.2.2 rfl (by decide) _ ((unnameR (r) ad asn)).ents.length _ rfl (HOX.out.alloc _) ⟨(WU).heap.size, 0, none⟩ 1 1 [.int .i64 (bd : Int), .string (tx bsn), .int .i64 (e1.node : Int)] rfl rfl (row_newsX HRX.out) ?c2 ?c3 ?c4 (Nat.zero_le _) ?_)
                case c2 => first | ((repeat' apply And.intro) <;> rfl) | (intro u hu; simp at hu; rcases hu with rfl | rfl | rfl <;> rfl)
                case c3 => have := HLU.out; unfold maxLen; omega
                case c4 => have := HLU.out; omega
                intro vX wX ownX gX _ atX
                obtain ⟨aY, cY, rfl⟩ := own_formX ownX
                have HPX := Lh (DocAt.putE kinds3 (HDU.out.alloc (.cells #[.int .i64 (bd : Int), .string (tx bsn), .int .i64 (e1.node : Int)] 148)) (l := ((unnameR (r) ad asn)).ents ++ [⟨bd, bsn, e1.node⟩]) (by rw [List.length_append, List.flatMap_append]; have := ownX; first | exact this | (simp only [reC, rnC, rfC, List.flatMap_cons, List.flatMap_nil, List.append_nil, List.length_cons, List.length_nil] at *; (try rw [← HS.out, tx_back]); exact this)) (by rw [HVX.out]; exact gX) (by rw [HVX.out]; rcases atX with q | q; exact .inl q; exact .inr (fun k hk => by rw [q] at hk; cases hk; simp)))
                have fX := HPX.out.1.frozen 3 (by simp)
                have cX' := HPX.out.1.cell 3 (by simp)
                have lX := HPX.out.1.lt
                have HD2 := Lh (And.intro HPX.out.2.1 ((Turns.below ((Below.refl (WU).heap.size (WU)).alloc (Nat.le_refl _) (.cells #[.int .i64 (bd : Int), .string (tx bsn), .int .i64 (e1.node : Int)] 148))).trans HPX.out.2.2))
                clear ownX gX atX HPX HRX HOX e2 e3 e4 hbl
                have hszU := FU.out.size
                go_upto_region 27 with fail
                have hDX := HD2.out
                generalize hQY : (Rr.mk QU.b QU.vn _ QU.vf) = Q2 at hDX
                have hQX : Q2.b = QU.b := by rw [← hQY]
                have HD3 : Hid (DocAt _ Q2 ({ (unnameR (r) ad asn) with ents := (unnameR (r) ad asn).ents ++ [⟨bd, bsn, e1.node⟩] }) ∧ Turns QU.O Q2.O (WU) _) := hDX
                clear hQY
                clear hDX HD2 fX cX' lX HVX
                try clear HOX
                generalize World.setCell _ _ _ = W6 at *
                rw [← hQX]
                have HQ2 := Lh hQX
                clear hQX
                have FV := Lh (FU.out.then ⟨HD3.out.1, HD3.out.2⟩)
                clear FU hszU HDU
                have HSW := Lh (r22sweep Q2 ({ (unnameR (r) ad asn) with ents := (unnameR (r) ad asn).ents ++ [⟨bd, bsn, e1.node⟩] }) _ FV.out.doc HF.out.nodes (by show ((unnameR (r) ad asn).ents ++ [_]).length ≤ 1000000; rw [List.length_append]; have := HLS.out; exact this) (by have := HF.out.fds; show r.fds.length ≤ 1000000; omega))
                go_wp2_with fail
                refine HSW.out.mono ?_
                rintro e WV ⟨rfl, hds⟩
                obtain ⟨QV, hQV, hmV⟩ := hds.mid
                have HQV := Lh (hQV.trans (HQ2.out.trans HQU.out))
                have FW := Lh (FV.out.then hmV)
                clear hds hmV FV hQV HSW HD3
                have hsz := FW.out.size
                obtain ⟨_, _, _, _, _, _, _, _, _, _, _, _, _, _, _, _, _, _, _, _⟩ := row10_all FW.out.ans
                go_wp2_with fail
                refine fin10 Tryz.results72 rfl rfl FW.out.ans ?_
                · unfold OpD
                  rw [HR.out]
                  refine ⟨rfl, QV, ?_, HQV.out⟩
                  repeat (refine DMid.other ?_ FW.out.nz (by omega) _ _)
                  exact FW.out.mid
         · have q2 : (r.kind e1.node == 2) = false := by simpa using hd
           have HR := Lh (show renameR r c = (An.zero, sweepR { unnameR (r) ad asn with ents := (unnameR (r) ad asn).ents ++ [⟨bd, bsn, e1.node⟩] }) from by rw [renameR, HQ1.out, HQ2'.out]; simp [if_neg (show ¬ (e1.node : Int) < 0 by omega), g2, hd] <;> (intro q; exact absurd q (by omega)))
           clear hd
           have HUN := Lh (fun W (hW : DocAt W Q (r)) => r22unname Q (r) ad (tx asn) kc e1 W hW HLC.out HEC.out.1 HEC.out.2)
           rw [tx_bts] at HUN
           have HLU := Lh (show (unnameR (r) ad asn).ents.length ≤ 1000000 from Nat.le_trans (List.length_eraseP_le) HLC.out)
           go_wp2_with fail
           refine (HUN.out _ F5.out.doc).mono ?_
           rintro e WU ⟨rfl, hds⟩
           obtain ⟨QU, hQU, hmU⟩ := hds.mid
           have HQU : Hid (QU.b = Q.b) := hQU
           have FU := Lh (F5.out.then hmU)
           have HDU := Lh hmU.doc
           rw [show (Q).b = QU.b from hQU.symm]
           clear hds hmU F5 hQU hsz HUN
           obtain ⟨_, _, e2, e3, e4⟩ := HDU.out.cells
           obtain ⟨aX, cX, hvX⟩ := own_form5 HDU.out.ents
           have hbl := HDU.out.row.lt
           rw [hvX] at e3
           have HVX := Lh hvX
           have HOX := Lh (show (WU).ownsRow 0 148 3 (.slice aX ((unnameR (r) ad asn)).ents.length cX) ((unnameR (r) ad asn)).ents.length (((unnameR (r) ad asn)).ents.flatMap reC) from by have := HDU.out.ents; rw [hvX] at this; exact this)
           have HRX := Lh (rowAt_alloc (WU) #[.int .i64 (bd : Int), .string (tx bsn), .int .i64 (e1.node : Int)] 148)
           clear hvX
           go_wp2_with (at_builtin; refine wpList_append_own_at _ rfl _ _ 95 rfl 0 148 iE (.agg #[.int .i64 0, .string ⟨#[]⟩, .int .i64 0]) 3 32 Tryz.underlying95 HIE.out.1 HIE.out.2.1 HIE.out.2.2.1 HIE.out.2.2.2 rfl (by decide) _ ((unnameR (r) ad asn)).ents.length _ rfl (HOX.out.alloc _) ⟨(WU).heap.size, 0, none⟩ 1 1 [.int .i64 (bd : Int), .string (tx bsn), .int .i64 (e1.node : Int)] rfl rfl (row_newsX HRX.out) ?c2 ?c3 ?c4 (Nat.zero_le _) ?_)
           case c2 => first | ((repeat' apply And.intro) <;> rfl) | (intro u hu; simp at hu; rcases hu with rfl | rfl | rfl <;> rfl)
           case c3 => have := HLU.out; unfold maxLen; omega
           case c4 => have := HLU.out; omega
           intro vX wX ownX gX _ atX
           obtain ⟨aY, cY, rfl⟩ := own_formX ownX
           have HPX := Lh (DocAt.putE kinds3 (HDU.out.alloc (.cells #[.int .i64 (bd : Int), .string (tx bsn), .int .i64 (e1.node : Int)] 148)) (l := ((unnameR (r) ad asn)).ents ++ [⟨bd, bsn, e1.node⟩]) (by rw [List.length_append, List.flatMap_append]; have := ownX; first | exact this | (simp only [reC, rnC, rfC, List.flatMap_cons, List.flatMap_nil, List.append_nil, List.length_cons, List.length_nil] at *; (try rw [← HS.out, tx_back]); exact this)) (by rw [HVX.out]; exact gX) (by rw [HVX.out]; rcases atX with q | q; exact .inl q; exact .inr (fun k hk => by rw [q] at hk; cases hk; simp)))
           have fX := HPX.out.1.frozen 3 (by simp)
           have cX' := HPX.out.1.cell 3 (by simp)
           have lX := HPX.out.1.lt
           have HD2 := Lh (And.intro HPX.out.2.1 ((Turns.below ((Below.refl (WU).heap.size (WU)).alloc (Nat.le_refl _) (.cells #[.int .i64 (bd : Int), .string (tx bsn), .int .i64 (e1.node : Int)] 148))).trans HPX.out.2.2))
           clear ownX gX atX HPX HRX HOX e2 e3 e4 hbl
           have hszU := FU.out.size
           go_upto_region 27 with fail
           have hDX := HD2.out
           generalize hQY : (Rr.mk QU.b QU.vn _ QU.vf) = Q2 at hDX
           have hQX : Q2.b = QU.b := by rw [← hQY]
           have HD3 : Hid (DocAt _ Q2 ({ (unnameR (r) ad asn) with ents := (unnameR (r) ad asn).ents ++ [⟨bd, bsn, e1.node⟩] }) ∧ Turns QU.O Q2.O (WU) _) := hDX
           clear hQY
           clear hDX HD2 fX cX' lX HVX
           try clear HOX
           generalize World.setCell _ _ _ = W6 at *
           rw [← hQX]
           have HQ2 := Lh hQX
           clear hQX
           have FV := Lh (FU.out.then ⟨HD3.out.1, HD3.out.2⟩)
           clear FU hszU HDU
           have HSW := Lh (r22sweep Q2 ({ (unnameR (r) ad asn) with ents := (unnameR (r) ad asn).ents ++ [⟨bd, bsn, e1.node⟩] }) _ FV.out.doc HF.out.nodes (by show ((unnameR (r) ad asn).ents ++ [_]).length ≤ 1000000; rw [List.length_append]; have := HLS.out; exact this) (by have := HF.out.fds; show r.fds.length ≤ 1000000; omega))
           go_wp2_with fail
           refine HSW.out.mono ?_
           rintro e WV ⟨rfl, hds⟩
           obtain ⟨QV, hQV, hmV⟩ := hds.mid
           have HQV := Lh (hQV.trans (HQ2.out.trans HQU.out))
           have FW := Lh (FV.out.then hmV)
           clear hds hmV FV hQV HSW HD3
           have hsz := FW.out.size
           obtain ⟨_, _, _, _, _, _, _, _, _, _, _, _, _, _, _, _, _, _, _, _⟩ := row10_all FW.out.ans
           go_wp2_with fail
           refine fin10 Tryz.results72 rfl rfl FW.out.ans ?_
           · unfold OpD
             rw [HR.out]
             refine ⟨rfl, QV, ?_, HQV.out⟩
             repeat (refine DMid.other ?_ FW.out.nz (by omega) _ _)
             exact FW.out.mid
       · have HE2 := Lh he2
         obtain ⟨x2, hx2⟩ : ∃ x, r.nd e2.node = some x := HF.out.enode e2 (List.mem_of_find?_eq_some he2)
         have HK2 := Lh (fun W (hW : DocAt W Q r) => r22kind Q r e2.node x2 W hW HF.out.nodes hx2)
         have HSZ := Lh (fun W (hW : DocAt W Q r) => r22size Q r e2.node x2 W hW HF.out.nodes HF.out.ents hx2)
         have hn2 : ¬ (e2.node : Int) < 0 := by omega
         clear he2 hx2
         by_cases hne : e2.node = e1.node
         · have g1 : ((e2.node : Int) == (e1.node : Int)) = true := by rw [hne]; simp
           have HR := Lh (show renameR r c = (An.zero, r) from by rw [renameR, HQ1.out, HQ2'.out]; simp [if_neg (show ¬ (e1.node : Int) < 0 by omega), hne]<;> (intro q; exact absurd q (by omega)))
           clear hne
           obtain ⟨_, _, _, _, _, _, _, _, _, _, _, _, _, _, _, _, _, _, _, _⟩ := row10_all F4.out.ans
           go_wp2_with fail
           refine fin10 Tryz.results72 rfl rfl F4.out.ans ?_
           · unfold OpD
             rw [HR.out]
             refine ⟨rfl, Q, ?_, rfl⟩
             repeat (refine DMid.other ?_ F4.out.nz (by omega) _ _)
             exact F4.out.mid
         · have g1 : ((e2.node : Int) == (e1.node : Int)) = false := by rw [beq_eq_false_iff_ne]; omega
           have g2 : ¬ (e2.node : Int) = (e1.node : Int) := by omega
           have HNE := Lh hne
           go_wp2_with fail
           refine (HK.out _ F4.out.doc).mono ?_
           rintro e W5 ⟨rfl, m5, rfl⟩
           have F5 := Lh (F4.out.drewN m5)
           clear F4
           generalize World.drewN _ m5 = W5g at *
           by_cases hd : r.kind e1.node = 2
           · have q2 : (r.kind e1.node == 2) = true := by simpa using hd
             cases hli : liesR r e1.node (r.nodes.length + 1) bd with
             | true =>
              have HR := Lh (show renameR r c = (failA 216, r) from by rw [renameR, HQ1.out, HQ2'.out]; simp [if_neg (show ¬ (e1.node : Int) < 0 by omega), if_neg (show ¬ (e2.node : Int) < 0 by omega), show ¬ (e2.node : Int) = (e1.node : Int) by omega, show ¬ e2.node = e1.node from hne, show (0 : Int) ≤ (e2.node : Int) by omega, hd, hli] <;> (intro q; exact absurd q (by omega)))
              rw [hli] at HLI
              clear hd hli hne g2
              go_wp2_with fail
              refine (HLI.out _ F5.out.doc).mono ?_
              rintro e W6 ⟨rfl, rfl⟩
              go_wp2_with fail
              refine (r22fail _ _).mono ?_
              rintro e WF ⟨rfl, hb⟩
              have F6 := Lh (F5.out.below hb)
              clear hb F5
              obtain ⟨_, _, _, _, _, _, _, _, _, _, _, _, _, _, _, _, _, _, _, _⟩ := row10_all F6.out.ans
              unfold failV anV Stt.zero
              go_wp2_with fail
              refine fin10 Tryz.results72 rfl rfl F6.out.ans ?_
              · unfold OpD
                rw [HR.out]
                refine ⟨rfl, Q, ?_, rfl⟩
                repeat (refine DMid.other ?_ F6.out.nz (by omega) _ _)
                exact F6.out.mid
             | false =>
              rw [hli] at HLI
              by_cases ho : r.kind e2.node = 2
              · have q3 : (r.kind e2.node == 2) = true := by simpa using ho
                by_cases hs : 0 < r.size e2.node
                · have HR := Lh (show renameR r c = (failA 214, r) from by rw [renameR, HQ1.out, HQ2'.out]; simp [if_neg (show ¬ (e1.node : Int) < 0 by omega), if_neg (show ¬ (e2.node : Int) < 0 by omega), show ¬ (e2.node : Int) = (e1.node : Int) by omega, show ¬ e2.node = e1.node from hne, show (0 : Int) ≤ (e2.node : Int) by omega, hd, hli, ho, hs] <;> (intro q; exact absurd q (by omega)))
                  clear hd hli hne g2 ho
                  go_wp2_with fail
                  refine (HLI.out _ F5.out.doc).mono ?_
                  rintro e W6 ⟨rfl, rfl⟩
                  go_wp2_with fail
                  refine (HK2.out _ F5.out.doc).mono ?_
                  rintro e W7 ⟨rfl, m7, rfl⟩
                  have F6 := Lh (F5.out.drewN m7)
                  clear F5
                  generalize World.drewN _ m7 = W7g at *
                  go_wp2_with fail
                  refine (HSZ.out _ F6.out.doc).mono ?_
                  rintro e W8 ⟨rfl, m8, rfl⟩
                  have F7 := Lh (F6.out.drewN m8)
                  clear F6
                  generalize World.drewN _ m8 = W8g at *
                  go_wp2_with fail
                  refine (r22fail _ _).mono ?_
                  rintro e WF ⟨rfl, hb⟩
                  have F8 := Lh (F7.out.below hb)
                  clear hb F7
                  obtain ⟨_, _, _, _, _, _, _, _, _, _, _, _, _, _, _, _, _, _, _, _⟩ := row10_all F8.out.ans
                  unfold failV anV Stt.zero
                  go_wp2_with fail
                  refine fin10 Tryz.results72 rfl rfl F8.out.ans ?_
                  · unfold OpD
                    rw [HR.out]
                    refine ⟨rfl, Q, ?_, rfl⟩
                    repeat (refine DMid.other ?_ F8.out.nz (by omega) _ _)
                    exact F8.out.mid
                · have HR := Lh (show renameR r c = (An.zero, sweepR { unnameR (unnameR r bd bsn) ad asn with ents := (unnameR (unnameR r bd bsn) ad asn).ents ++ [⟨bd, bsn, e1.node⟩] }) from by rw [renameR, HQ1.out, HQ2'.out]; simp [if_neg (show ¬ (e1.node : Int) < 0 by omega), if_neg (show ¬ (e2.node : Int) < 0 by omega), show ¬ (e2.node : Int) = (e1.node : Int) by omega, show ¬ e2.node = e1.node from hne, show (0 : Int) ≤ (e2.node : Int) by omega, hd, hli, ho, hs] <;> (intro q; exact absurd q (by omega)))
                  clear hd hli hne g2 ho
                  go_wp2_with fail
                  refine (HLI.out _ F5.out.doc).mono ?_
                  rintro e W6 ⟨rfl, rfl⟩
                  go_wp2_with fail
                  refine (HK2.out _ F5.out.doc).mono ?_
                  rintro e W7 ⟨rfl, m7, rfl⟩
                  have F6 := Lh (F5.out.drewN m7)
                  clear F5
                  generalize World.drewN _ m7 = W7g at *
                  go_wp2_with fail
                  refine (HSZ.out _ F6.out.doc).mono ?_
                  rintro e W8 ⟨rfl, m8, rfl⟩
                  have F7 := Lh (F6.out.drewN m8)
                  clear F6
                  generalize World.drewN _ m8 = W8g at *
                  obtain ⟨k2, hk1, hkk⟩ := ent_at (s := tx bsn) (by rw [tx_bts]; exact HE2.out)
                  have HUN0 := Lh (fun W (hW : DocAt W Q r) => r22unname Q r bd (tx bsn) k2 e2 W hW HF.out.ents hk1 hkk)
                  rw [tx_bts] at HUN0
                  clear hk1 hkk
                  go_wp2_with fail
                  refine (HUN0.out _ F7.out.doc).mono ?_
                  rintro e WA ⟨rfl, hds⟩
                  obtain ⟨QA, hQA, hmA⟩ := hds.mid
                  have FA := Lh (F7.out.then hmA)
                  rw [← hQA]
                  have HQA := Lh hQA
                  clear hds hmA F7 hsz HUN0 hQA
                  have hsz := FA.out.size
                  have HLC := Lh (show (unnameR r bd bsn).ents.length ≤ 1000000 from Nat.le_trans (List.length_eraseP_le) HF.out.ents)
                  obtain ⟨kc, hk1, hkk⟩ := ent_at (s := tx asn) (r := unnameR r bd bsn) (dir := ad) (by rw [tx_bts]; exact unname_ent HE1.out HE2.out (fun q => HNE.out q.symm))
                  have HEC := Lh (And.intro hk1 hkk)
                  have HLS := Lh (show (unnameR (unnameR r bd bsn) ad asn).ents.length + 1 ≤ 1000000 from by
                   have h1 : (unnameR (unnameR r bd bsn) ad asn).ents.length ≤ (unnameR r bd bsn).ents.length := List.length_eraseP_le
                   have h2 : (unnameR r bd bsn).ents.length ≤ r.ents.length := List.length_eraseP_le
                   have := HLM.out; omega)
                  clear hk1 hkk
                  have HUN := Lh (fun W (hW : DocAt W QA (unnameR r bd bsn)) => r22unname QA (unnameR r bd bsn) ad (tx asn) kc e1 W hW HLC.out HEC.out.1 HEC.out.2)
                  rw [tx_bts] at HUN
                  have HLU := Lh (show (unnameR (unnameR r bd bsn) ad asn).ents.length ≤ 1000000 from Nat.le_trans (List.length_eraseP_le) HLC.out)
                  go_wp2_with fail
                  refine (HUN.out _ FA.out.doc).mono ?_
                  rintro e WU ⟨rfl, hds⟩
                  obtain ⟨QU, hQU, hmU⟩ := hds.mid
                  have HQU : Hid (QU.b = Q.b) := hQU.trans HQA.out
                  have FU := Lh (FA.out.then hmU)
                  have HDU := Lh hmU.doc
                  rw [show (QA).b = QU.b from hQU.symm]
                  clear hds hmU FA hQU hsz HUN
                  obtain ⟨_, _, e2, e3, e4⟩ := HDU.out.cells
                  obtain ⟨aX, cX, hvX⟩ := own_form5 HDU.out.ents
                  have hbl := HDU.out.row.lt
                  rw [hvX] at e3
                  have HVX := Lh hvX
                  have HOX := Lh (show (WU).ownsRow 0 148 3 (.slice aX ((unnameR (unnameR r bd bsn) ad asn)).ents.length cX) ((unnameR (unnameR r bd bsn) ad asn)).ents.length (((unnameR (unnameR r bd bsn) ad asn)).ents.flatMap reC) from by have := HDU.out.ents; rw [hvX] at this; exact this)
                  have HRX := Lh (rowAt_alloc (WU) #[.int .i64 (bd : Int), .string (tx bsn), .int .i64 (e1.node : Int)] 148)
                  clear hvX
                  go_wp2_with (at_builtin; refine wpList_append_own_at _ rfl _ _ 95 rfl 0 148 iE (.agg #[.int .i64 0, .string ⟨#[]⟩, .int .i64 0]) 3 32 Tryz.underlying95 HIE.out.1 HIE.out.2.1 HIE.out.2.2.1 HIE.out.2.2.2 rfl (by decide) _ ((unnameR (unnameR r bd bsn) ad asn)).ents.length _ rfl (HOX.out.alloc _) ⟨(WU).heap.size, 0, none⟩ 1 1 [.int .i64 (bd : Int), .string (tx bsn), .int .i64 (e1.node : Int)] rfl rfl (row_newsX HRX.out) ?c2 ?c3 ?c4 (Nat.zero_le _) ?_)
                  case c2 => first | ((repeat' apply And.intro) <;> rfl) | (intro u hu; simp at hu; rcases hu with rfl | rfl | rfl <;> rfl)
                  case c3 => have := HLU.out; unfold maxLen; omega
                  case c4 => have := HLU.out; omega
                  intro vX wX ownX gX _ atX
                  obtain ⟨aY, cY, rfl⟩ := own_formX ownX
                  have HPX := Lh (DocAt.putE kinds3 (HDU.out.alloc (.cells #[.int .i64 (bd : Int), .string (tx bsn), .int .i64 (e1.node : Int)] 148)) (l := ((unnameR (unnameR r bd bsn) ad asn)).ents ++ [⟨bd, bsn, e1.node⟩]) (by rw [List.length_append, List.flatMap_append]; have := ownX; first | exact this | (simp only [reC, rnC, rfC, List.flatMap_cons, List.flatMap_nil, List.append_nil, List.length_cons, List.length_nil] at *; (try rw [← HS.out, tx_back]); exact this)) (by rw [HVX.out]; exact gX) (by rw [HVX.out]; rcases atX with q | q; exact .inl q; exact .inr (fun k hk => by rw [q] at hk; cases hk; simp)))
                  have fX := HPX.out.1.frozen 3 (by simp)
                  have cX' := HPX.out.1.cell 3 (by simp)
                  have lX := HPX.out.1.lt
                  have HD2 := Lh (And.intro HPX.out.2.1 ((Turns.below ((Below.refl (WU).heap.size (WU)).alloc (Nat.le_refl _) (.cells #[.int .i64 (bd : Int), .string (tx bsn), .int .i64 (e1.node : Int)] 148))).trans HPX.out.2.2))
                  clear ownX gX atX HPX HRX HOX e2 e3 e4 hbl
                  have hszU := FU.out.size
                  go_upto_region 27 with fail
                  have hDX := HD2.out
                  generalize hQY : (Rr.mk QU.b QU.vn _ QU.vf) = Q2 at hDX
                  have hQX : Q2.b = QU.b := by rw [← hQY]
                  have HD3 : Hid (DocAt _ Q2 ({ (unnameR (unnameR r bd bsn) ad asn) with ents := (unnameR (unnameR r bd bsn) ad asn).ents ++ [⟨bd, bsn, e1.node⟩] }) ∧ Turns QU.O Q2.O (WU) _) := hDX
                  clear hQY
                  clear hDX HD2 fX cX' lX HVX
                  try clear HOX
                  generalize World.setCell _ _ _ = W6 at *
                  rw [← hQX]
                  have HQ2 := Lh hQX
                  clear hQX
                  have FV := Lh (FU.out.then ⟨HD3.out.1, HD3.out.2⟩)
                  clear FU hszU HDU
                  have HSW := Lh (r22sweep Q2 ({ (unnameR (unnameR r bd bsn) ad asn) with ents := (unnameR (unnameR r bd bsn) ad asn).ents ++ [⟨bd, bsn, e1.node⟩] }) _ FV.out.doc HF.out.nodes (by show ((unnameR (unnameR r bd bsn) ad asn).ents ++ [_]).length ≤ 1000000; rw [List.length_append]; have := HLS.out; exact this) (by have := HF.out.fds; show r.fds.length ≤ 1000000; omega))
                  go_wp2_with fail
                  refine HSW.out.mono ?_
                  rintro e WV ⟨rfl, hds⟩
                  obtain ⟨QV, hQV, hmV⟩ := hds.mid
                  have HQV := Lh (hQV.trans (HQ2.out.trans HQU.out))
                  have FW := Lh (FV.out.then hmV)
                  clear hds hmV FV hQV HSW HD3
                  have hsz := FW.out.size
                  obtain ⟨_, _, _, _, _, _, _, _, _, _, _, _, _, _, _, _, _, _, _, _⟩ := row10_all FW.out.ans
                  go_wp2_with fail
                  refine fin10 Tryz.results72 rfl rfl FW.out.ans ?_
                  · unfold OpD
                    rw [HR.out]
                    refine ⟨rfl, QV, ?_, HQV.out⟩
                    repeat (refine DMid.other ?_ FW.out.nz (by omega) _ _)
                    exact FW.out.mid
              · have q3 : (r.kind e2.node == 2) = false := by simpa using ho
                have HR := Lh (show renameR r c = (failA 212, r) from by rw [renameR, HQ1.out, HQ2'.out]; simp [if_neg (show ¬ (e1.node : Int) < 0 by omega), if_neg (show ¬ (e2.node : Int) < 0 by omega), show ¬ (e2.node : Int) = (e1.node : Int) by omega, show ¬ e2.node = e1.node from hne, show (0 : Int) ≤ (e2.node : Int) by omega, hd, hli, ho] <;> (intro q; exact absurd q (by omega)))
                clear hd hli hne g2 ho
                go_wp2_with fail
                refine (HLI.out _ F5.out.doc).mono ?_
                rintro e W6 ⟨rfl, rfl⟩
                go_wp2_with fail
                refine (HK2.out _ F5.out.doc).mono ?_
                rintro e W7 ⟨rfl, m7, rfl⟩
                have F6 := Lh (F5.out.drewN m7)
                clear F5
                generalize World.drewN _ m7 = W7g at *
                go_wp2_with fail
                refine (r22fail _ _).mono ?_
                rintro e WF ⟨rfl, hb⟩
                have F8 := Lh (F6.out.below hb)
                clear hb F6
                obtain ⟨_, _, _, _, _, _, _, _, _, _, _, _, _, _, _, _, _, _, _, _⟩ := row10_all F8.out.ans
                unfold failV anV Stt.zero
                go_wp2_with fail
                refine fin10 Tryz.results72 rfl rfl F8.out.ans ?_
                · unfold OpD
                  rw [HR.out]
                  refine ⟨rfl, Q, ?_, rfl⟩
                  repeat (refine DMid.other ?_ F8.out.nz (by omega) _ _)
                  exact F8.out.mid
           · have q2 : (r.kind e1.node == 2) = false := by simpa using hd
             by_cases ho : r.kind e2.node = 2
             · have q3 : (r.kind e2.node == 2) = true := by simpa using ho
               have HR := Lh (show renameR r c = (failA 213, r) from by rw [renameR, HQ1.out, HQ2'.out]; simp [if_neg (show ¬ (e1.node : Int) < 0 by omega), if_neg (show ¬ (e2.node : Int) < 0 by omega), show ¬ (e2.node : Int) = (e1.node : Int) by omega, show ¬ e2.node = e1.node from hne, show (0 : Int) ≤ (e2.node : Int) by omega, hd, ho] <;> (intro q; exact absurd q (by omega)))
               clear hd hne g2 ho
               go_wp2_with fail
               refine (HK2.out _ F5.out.doc).mono ?_
               rintro e W7 ⟨rfl, m7, rfl⟩
               have F6 := Lh (F5.out.drewN m7)
               clear F5
               generalize World.drewN _ m7 = W7g at *
               go_wp2_with fail
               refine (r22fail _ _).mono ?_
               rintro e WF ⟨rfl, hb⟩
               have F8 := Lh (F6.out.below hb)
               clear hb F6
               obtain ⟨_, _, _, _, _, _, _, _, _, _, _, _, _, _, _, _, _, _, _, _⟩ := row10_all F8.out.ans
               unfold failV anV Stt.zero
               go_wp2_with fail
               refine fin10 Tryz.results72 rfl rfl F8.out.ans ?_
               · unfold OpD
                 rw [HR.out]
                 refine ⟨rfl, Q, ?_, rfl⟩
                 repeat (refine DMid.other ?_ F8.out.nz (by omega) _ _)
                 exact F8.out.mid
             · have q3 : (r.kind e2.node == 2) = false := by simpa using ho
               have HR := Lh (show renameR r c = (An.zero, sweepR { unnameR (unnameR r bd bsn) ad asn with ents := (unnameR (unnameR r bd bsn) ad asn).ents ++ [⟨bd, bsn, e1.node⟩] }) from by rw [renameR, HQ1.out, HQ2'.out]; simp [if_neg (show ¬ (e1.node : Int) < 0 by omega), if_neg (show ¬ (e2.node : Int) < 0 by omega), show ¬ (e2.node : Int) = (e1.node : Int) by omega, show ¬ e2.node = e1.node from hne, show (0 : Int) ≤ (e2.node : Int) by omega, hd, ho] <;> (intro q; exact absurd q (by omega)))
               clear hd hne g2 ho
               go_wp2_with fail
               refine (HK2.out _ F5.out.doc).mono ?_
               rintro e W7 ⟨rfl, m7, rfl⟩
               have F6 := Lh (F5.out.drewN m7)
               clear F5
               generalize World.drewN _ m7 = W7g at *
               obtain ⟨k2, hk1, hkk⟩ := ent_at (s := tx bsn) (by rw [tx_bts]; exact HE2.out)
               have HUN0 := Lh (fun W (hW : DocAt W Q r) => r22unname Q r bd (tx bsn) k2 e2 W hW HF.out.ents hk1 hkk)
               rw [tx_bts] at HUN0
               clear hk1 hkk
               go_wp2_with fail
               refine (HUN0.out _ F6.out.doc).mono ?_
               rintro e WA ⟨rfl, hds⟩
               obtain ⟨QA, hQA, hmA⟩ := hds.mid
               have FA := Lh (F6.out.then hmA)
               rw [← hQA]
               have HQA := Lh hQA
               clear hds hmA F6 hsz HUN0 hQA
               have hsz := FA.out.size
               have HLC := Lh (show (unnameR r bd bsn).ents.length ≤ 1000000 from Nat.le_trans (List.length_eraseP_le) HF.out.ents)
               obtain ⟨kc, hk1, hkk⟩ := ent_at (s := tx asn) (r := unnameR r bd bsn) (dir := ad) (by rw [tx_bts]; exact unname_ent HE1.out HE2.out (fun q => HNE.out q.symm))
               have HEC := Lh (And.intro hk1 hkk)
               have HLS := Lh (show (unnameR (unnameR r bd bsn) ad asn).ents.length + 1 ≤ 1000000 from by
                have h1 : (unnameR (unnameR r bd bsn) ad asn).ents.length ≤ (unnameR r bd bsn).ents.length := List.length_eraseP_le
                have h2 : (unnameR r bd bsn).ents.length ≤ r.ents.length := List.length_eraseP_le
                have := HLM.out; omega)
               clear hk1 hkk
               have HUN := Lh (fun W (hW : DocAt W QA (unnameR r bd bsn)) => r22unname QA (unnameR r bd bsn) ad (tx asn) kc e1 W hW HLC.out HEC.out.1 HEC.out.2)
               rw [tx_bts] at HUN
               have HLU := Lh (show (unnameR (unnameR r bd bsn) ad asn).ents.length ≤ 1000000 from Nat.le_trans (List.length_eraseP_le) HLC.out)
               go_wp2_with fail
               refine (HUN.out _ FA.out.doc).mono ?_
               rintro e WU ⟨rfl, hds⟩
               obtain ⟨QU, hQU, hmU⟩ := hds.mid
               have HQU : Hid (QU.b = Q.b) := hQU.trans HQA.out
               have FU := Lh (FA.out.then hmU)
               have HDU := Lh hmU.doc
               rw [show (QA).b = QU.b from hQU.symm]
               clear hds hmU FA hQU hsz HUN
               obtain ⟨_, _, e2, e3, e4⟩ := HDU.out.cells
               obtain ⟨aX, cX, hvX⟩ := own_form5 HDU.out.ents
               have hbl := HDU.out.row.lt
               rw [hvX] at e3
               have HVX := Lh hvX
               have HOX := Lh (show (WU).ownsRow 0 148 3 (.slice aX ((unnameR (unnameR r bd bsn) ad asn)).ents.length cX) ((unnameR (unnameR r bd bsn) ad asn)).ents.length (((unnameR (unnameR r bd bsn) ad asn)).ents.flatMap reC) from by have := HDU.out.ents; rw [hvX] at this; exact this)
               have HRX := Lh (rowAt_alloc (WU) #[.int .i64 (bd : Int), .string (tx bsn), .int .i64 (e1.node : Int)] 148)
               clear hvX
               go_wp2_with (at_builtin; refine wpList_append_own_at _ rfl _ _ 95 rfl 0 148 iE (.agg #[.int .i64 0, .string ⟨#[]⟩, .int .i64 0]) 3 32 Tryz.underlying95 HIE.out.1 HIE.out.2.1 HIE.out.2.2.1 HIE.out.2.2.2 rfl (by decide) _ ((unnameR (unnameR r bd bsn) ad asn)).ents.length _ rfl (HOX.out.alloc _) ⟨(WU).heap.size, 0, none⟩ 1 1 [.int .i64 (bd : Int), .string (tx bsn), .int .i64 (e1.node : Int)] rfl rfl (row_newsX HRX.out) ?c2 ?c3 ?c4 (Nat.zero_le _) ?_)
               case c2 => first | ((repeat' apply And.intro) <;> rfl) | (intro u hu; simp at hu; rcases hu with rfl | rfl | rfl <;> rfl)
               case c3 => have := HLU.out; unfold maxLen; omega
               case c4 => have := HLU.out; omega
               intro vX wX ownX gX _ atX
               obtain ⟨aY, cY, rfl⟩ := own_formX ownX
               have HPX := Lh (DocAt.putE kinds3 (HDU.out.alloc (.cells #[.int .i64 (bd : Int), .string (tx bsn), .int .i64 (e1.node : Int)] 148)) (l := ((unnameR (unnameR r bd bsn) ad asn)).ents ++ [⟨bd, bsn, e1.node⟩]) (by rw [List.length_append, List.flatMap_append]; have := ownX; first | exact this | (simp only [reC, rnC, rfC, List.flatMap_cons, List.flatMap_nil, List.append_nil, List.length_cons, List.length_nil] at *; (try rw [← HS.out, tx_back]); exact this)) (by rw [HVX.out]; exact gX) (by rw [HVX.out]; rcases atX with q | q; exact .inl q; exact .inr (fun k hk => by rw [q] at hk; cases hk; simp)))
               have fX := HPX.out.1.frozen 3 (by simp)
               have cX' := HPX.out.1.cell 3 (by simp)
               have lX := HPX.out.1.lt
               have HD2 := Lh (And.intro HPX.out.2.1 ((Turns.below ((Below.refl (WU).heap.size (WU)).alloc (Nat.le_refl _) (.cells #[.int .i64 (bd : Int), .string (tx bsn), .int .i64 (e1.node : Int)] 148))).trans HPX.out.2.2))
               clear ownX gX atX HPX HRX HOX e2 e3 e4 hbl
               have hszU := FU.out.size
               go_upto_region 27 with fail
               have hDX := HD2.out
               generalize hQY : (Rr.mk QU.b QU.vn _ QU.vf) = Q2 at hDX
               have hQX : Q2.b = QU.b := by rw [← hQY]
               have HD3 : Hid (DocAt _ Q2 ({ (unnameR (unnameR r bd bsn) ad asn) with ents := (unnameR (unnameR r bd bsn) ad asn).ents ++ [⟨bd, bsn, e1.node⟩] }) ∧ Turns QU.O Q2.O (WU) _) := hDX
               clear hQY
               clear hDX HD2 fX cX' lX HVX
               try clear HOX
               generalize World.setCell _ _ _ = W6 at *
               rw [← hQX]
               have HQ2 := Lh hQX
               clear hQX
               have FV := Lh (FU.out.then ⟨HD3.out.1, HD3.out.2⟩)
               clear FU hszU HDU
               have HSW := Lh (r22sweep Q2 ({ (unnameR (unnameR r bd bsn) ad asn) with ents := (unnameR (unnameR r bd bsn) ad asn).ents ++ [⟨bd, bsn, e1.node⟩] }) _ FV.out.doc HF.out.nodes (by show ((unnameR (unnameR r bd bsn) ad asn).ents ++ [_]).length ≤ 1000000; rw [List.length_append]; have := HLS.out; exact this) (by have := HF.out.fds; show r.fds.length ≤ 1000000; omega))
               go_wp2_with fail
               refine HSW.out.mono ?_
               rintro e WV ⟨rfl, hds⟩
               obtain ⟨QV, hQV, hmV⟩ := hds.mid
               have HQV := Lh (hQV.trans (HQ2.out.trans HQU.out))
               have FW := Lh (FV.out.then hmV)
               clear hds hmV FV hQV HSW HD3
               have hsz := FW.out.size
               obtain ⟨_, _, _, _, _, _, _, _, _, _, _, _, _, _, _, _, _, _, _, _⟩ := row10_all FW.out.ans
               go_wp2_with fail
               refine fin10 Tryz.results72 rfl rfl FW.out.ans ?_
               · unfold OpD
                 rw [HR.out]
                 refine ⟨rfl, QV, ?_, HQV.out⟩
                 repeat (refine DMid.other ?_ FW.out.nz (by omega) _ _)
                 exact FW.out.mid
     · have HR := Lh (show renameR r c = (failA zo, r) from by rw [renameR, HQ1.out, HQ2'.out]; simp [if_neg (show ¬ (e1.node : Int) < 0 by omega), hz] <;> (intro q; exact absurd q (by omega)))
       have q1 : (zo != 0) = true := by rw [bne_iff_ne]; exact hz
       clear hz
       go_wp2_with fail
       refine (r22fail _ _).mono ?_
       rintro e WF ⟨rfl, hb⟩
       have F6 := Lh (F4.out.below hb)
       clear hb F4
       obtain ⟨_, _, _, _, _, _, _, _, _, _, _, _, _, _, _, _, _, _, _, _⟩ := row10_all F6.out.ans
       unfold failV anV Stt.zero
       go_wp2_with fail
       refine fin10 Tryz.results72 rfl rfl F6.out.ans ?_
       · unfold OpD
         rw [HR.out]
         refine ⟨rfl, Q, ?_, rfl⟩
         repeat (refine DMid.other ?_ F6.out.nz (by omega) _ _)
         exact F6.out.mid
 · have HR := Lh (show renameR r c = (failA zp, r) from by rw [renameR, HQ1.out]; simp [hy])
   have q1 : (zp != 0) = true := by rw [bne_iff_ne]; exact hy
   clear hy
   go_wp2_with fail
   refine (r22fail _ _).mono ?_
   rintro e WF ⟨rfl, hb⟩
   have F6 := Lh (F2.out.below hb)
   clear hb F2
   obtain ⟨_, _, _, _, _, _, _, _, _, _, _, _, _, _, _, _, _, _, _, _⟩ := row10_all F6.out.ans
   unfold failV anV Stt.zero
   go_wp2_with fail
   refine fin10 Tryz.results72 rfl rfl F6.out.ans ?_
   · unfold OpD
     rw [HR.out]
     refine ⟨rfl, Q, ?_, rfl⟩
     repeat (refine DMid.other ?_ F6.out.nz (by omega) _ _)
     exact F6.out.mid
end Go.Proofs.YtppdihpobokfnaaGreatDoor
