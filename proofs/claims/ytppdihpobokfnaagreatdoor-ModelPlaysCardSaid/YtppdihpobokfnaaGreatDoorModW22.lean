/- A part of a proof. -/
import Derived.Test.YtppdihpobokfnaaGreatDoorGF
set_option linter.unusedVariables false
set_option linter.unusedSimpArgs false
set_option maxRecDepth 100000
namespace Go.Proofs.YtppdihpobokfnaaGreatDoor
open Go.RowKit Go.Joins
theorem moveP_neg {m : Md} {pd qd k : Nat} {qn : Int} {pa qa : Bs} (h : qn < 0) : moveP m ⟨pd, (k : Int), pa⟩ ⟨qd, qn, qa⟩ = (if ((linkP (unnameP m pd pa) qd qa k).get k).kind = 2 then linksP (linksP (linkP (unnameP m pd pa) qd qa k) pd (-1)) qd 1 else linkP (unnameP m pd pa) qd qa k).set k fun n => { n with par := qd } := by
 rw [moveP]
 simp only [Int.toNat_natCast, if_neg (show ¬ (0 : Int) ≤ qn from by omega)]
theorem moveP_pos {m : Md} {pd qd k j : Nat} {pa qa : Bs} : moveP m ⟨pd, (k : Int), pa⟩ ⟨qd, (j : Int), qa⟩ = (if ((linkP (unnameP (dropP m ⟨qd, (j : Int), qa⟩) pd pa) qd qa k).get k).kind = 2 then linksP (linksP (linkP (unnameP (dropP m ⟨qd, (j : Int), qa⟩) pd pa) qd qa k) pd (-1)) qd 1 else linkP (unnameP (dropP m ⟨qd, (j : Int), qa⟩) pd pa) qd qa k).set k fun n => { n with par := qd } := by
 rw [moveP]
 simp only [Int.toNat_natCast, if_pos (show (0 : Int) ≤ ((j : Nat) : Int) from by omega)]
set_option maxHeartbeats 4000000 in
theorem mrename (R : Rp) (m : Md) (c : Cl) (w : World) (h : MdAt w R m) (hG : Good m) :
  Calls Tryz.prog 47 #[.pointer (some ⟨R.mb, 0, none⟩), .agg #[.int .i64 c.k, .string c.p, .string c.o, .int .i64 c.fd, .int .i64 c.n, .string c.d, .bool c.on]] w (OpR w R (renameP m c)) := by
 have HG := Lh hG
 obtain ⟨pd, pn, pa, z, hq⟩ : ∃ pd pn pa z, thereP m (bts c.p) = (⟨pd, pn, pa⟩, z) := ⟨_, _, _, _, rfl⟩
 obtain ⟨qd, qn, qa, y, hy⟩ : ∃ qd qn qa y, locateP m (bts c.o) = (⟨qd, qn, qa⟩, y) := ⟨_, _, _, _, rfl⟩
 have hL := fun W (hW : MdAt W R m) => mthere R m c.p W hW hG
 have hL2 := fun W (hW : MdAt W R m) => mlocate R m c.o W hW hG
 rw [hq] at hL
 rw [hy] at hL2
 unfold plV at hL hL2
 have HL := Lh hL
 have HL2 := Lh hL2
 have HQ := Lh hq
 have HY := Lh hy
 clear hL hL2
 by_cases hz : z = 0
 · subst hz
   obtain ⟨dd, k, d, h1, h2, h3, h4, h5, h6⟩ := thereP_ok hG (p := bts c.p) (by rw [hq])
   rw [hq] at h1 h3 h4 h5
   have h5 : pn = (k : Int) := h5
   subst h5
   have HD := Lh (show lookK m.nodes pd = some dd ∧ dd.kind = 2 ∧ lookN dd.names pa = some k from ⟨h1, h2, h4⟩)
   have HKA := Lh (key_txt (s := tx pa) (by rw [tx_size]; have h3' : pa.length ≤ 32 := h3; omega))
   have HK := Lh h6
   have HKZ := Lh (hG.small h6)
   clear h1 h2 h3 h4 h5 h6 hq
   by_cases hyz : y = 0
   · subst hyz
     obtain ⟨dq, g1, g2, g3, g40⟩ := locateP_ok hG (p := bts c.o) (by rw [hy])
     rw [hy] at g1 g3 g40
     have HDQ := Lh (show lookK m.nodes qd = some dq ∧ dq.kind = 2 from ⟨g1, g2⟩)
     have HQL := Lh (show qa.length ≤ 1000000 from by have g3' : qa.length ≤ 32 := g3; omega)
     have HKB := Lh (key_txt (s := tx qa) (by rw [tx_size]; have := HQL.out; omega))
     have g4 : qn = nodeAt (lookN dq.names qa) := g40
     clear g40
     by_cases hneg : qn < 0
     · have hne : ¬ (k : Int) = qn := by omega
       have hne1 : ((k : Int) == qn) = false := by rw [beq_eq_false_iff_ne]; exact hne
       clear g1 g2 g3 g4 hy hG
       have F0 := Fr.start h c 36 33
       go_enter Tryz.func47, Tryz.ntmps47
       go_upto_region 1 with fail
       generalize (w.alloc (.cells #[.int .i64 c.k, .string c.p, .string c.o, .int .i64 c.fd, .int .i64 c.n, .string c.d, .bool c.on] 36)).alloc (.cells #[.int .i64 0, .int .i64 0, .string ⟨#[]⟩, .slice none 0 0, .int .i64 0, .int .i64 0, .int .i64 0, .bool false, .slice none 0 0, .bool false] 33) = W1 at *
       have F1 := Lh F0
       clear F0
       obtain ⟨a0, a1, a2, a3, a4, a5, a6⟩ := row7_cells F1.out.call
       obtain ⟨m0, m1, m2, m3, m4⟩ := F1.out.md.cells
       go_wp2_with fail
       refine (HL.out _ F1.out.md).mono ?_
       rintro e W2 ⟨rfl, hb⟩
       have F2 := Lh (F1.out.below hb)
       skip
       have F3 := Lh (F2.out.alloc (.cells #[.int .i64 (pd : Int), .int .i64 (k : Int), .string (tx pa)] 118))
       skip
       have HP3 := Lh (rowAt_alloc W2 #[.int .i64 (pd : Int), .int .i64 (k : Int), .string (tx pa)] 118)
       have HPN := Lh (F2.out.md.fresh (Nat.le_refl W2.heap.size))
       have HPZ := F2.out.size
       clear hb F1 HL a0 a1 a2 a3 a4 a5 a6 m0 m1 m2 m3 m4
       go_upto_region 2 with fail
       generalize W2.alloc (.cells #[.int .i64 (pd : Int), .int .i64 (k : Int), .string (tx pa)] 118) = W3 at *
       clear F2
       obtain ⟨p0, p1, p2⟩ := row3_cells HP3.out
       obtain ⟨a0, a1, a2, a3, a4, a5, a6⟩ := row7_cells F3.out.call
       go_wp2_with fail
       refine (HL2.out _ F3.out.md).mono ?_
       rintro e W4 ⟨rfl, hb⟩
       have F4 := Lh (F3.out.below hb)
       have HP4 := Lh (HP3.out.below hb HP3.out.lt)
       clear HP3
       have F5 := Lh (F4.out.alloc (.cells #[.int .i64 (qd : Int), .int .i64 qn, .string (tx qa)] 118))
       have HP5 := Lh (HP4.out.alloc (.cells #[.int .i64 (qd : Int), .int .i64 qn, .string (tx qa)] 118))
       clear HP4
       have HT5 := Lh (rowAt_alloc W4 #[.int .i64 (qd : Int), .int .i64 qn, .string (tx qa)] 118)
       have HTN := Lh (F4.out.md.fresh (Nat.le_refl W4.heap.size))
       have HTZ := F4.out.size
       clear hb F3 HL2 a0 a1 a2 a3 a4 a5 a6
       go_upto_region 5 with fail
       generalize W4.alloc (.cells #[.int .i64 (qd : Int), .int .i64 qn, .string (tx qa)] 118) = W5 at *
       clear F4
       obtain ⟨p0, p1, p2⟩ := row3_cells HP5.out
       obtain ⟨q0, q1, q2⟩ := row3_cells HT5.out
       have HR1 := Lh (show renameP m c = if mayP m ⟨pd, (k : Int), pa⟩ ⟨qd, qn, qa⟩ ≠ 0 then (failA (mayP m ⟨pd, (k : Int), pa⟩ ⟨qd, qn, qa⟩), m) else (An.zero, moveP m ⟨pd, (k : Int), pa⟩ ⟨qd, qn, qa⟩) from by rw [renameP, HQ.out, HY.out]; simp only []; rw [if_neg (by simp), if_neg (by simp), if_neg hne])
       obtain ⟨x, hx⟩ : ∃ x, x = mayP m ⟨pd, (k : Int), pa⟩ ⟨qd, qn, qa⟩ := ⟨_, rfl⟩
       have HMY := Lh (fun W (hW : MdAt W R m) => mmay_neg R m ⟨pd, (k : Int), pa⟩ ⟨qd, qn, qa⟩ k d dq W hW HG.out rfl HK.out ⟨dq, HDQ.out.1, HDQ.out.2⟩ HDQ.out.1 hneg)
       rw [← hx] at HMY HR1
       have HX := Lh hx
       clear hx
       go_wp2_with fail
       refine (HMY.out _ F5.out.md).mono ?_
       rintro e W6 ⟨rfl, hb⟩
       have F6 := Lh (F5.out.below hb)
       have HP6 := Lh (HP5.out.below hb HP5.out.lt)
       have HT6 := Lh (HT5.out.below hb HT5.out.lt)
       clear hb F5 HP5 HT5 HMY p0 p1 p2 q0 q1 q2
       by_cases hx0 : x = 0
       · subst hx0
         have HR0 := Lh (show renameP m c = (An.zero, (if ((linkP (unnameP m pd pa) qd qa k).get k).kind = 2 then linksP (linksP (linkP (unnameP m pd pa) qd qa k) pd (-1)) qd 1 else linkP (unnameP m pd pa) qd qa k).set k fun n => { n with par := qd }) from by rw [HR1.out, if_neg (by simp), moveP_neg hneg])
         have HRD := Lh (Ready.start HG.out ⟨dd, HD.out.1, HD.out.2.1⟩ ⟨dq, HDQ.out.1, HDQ.out.2⟩ HK.out)
         obtain ⟨q0, q1, q2⟩ := row3_cells HT6.out
         go_upto_region 14 with fail
         clear q0 q1 q2 HR1 HX
         have F8 := F6
         have HP8 := HP6
         have HT8 := HT6
         have NP := HPN
         have NT := HTN
         clear F6 HP6 HT6 HPN HTN
         generalize W6 = W8 at *
         obtain ⟨da, hda, hda2⟩ := HRD.out.a
         have hsa := HRD.out.all _ _ hda
         obtain ⟨m0, m1, m2, m3, m4⟩ := F8.out.md.cells
         skip
         have hl := F8.out.md.drew.look hda (by omega)
         have HN := Lh (F8.out.md.drew.nodes _ _ hda)
         obtain ⟨e0, e1, e2, e3, e4, e5⟩ := (F8.out.md.nodes _ _ hda).cells
         rw [if_pos hda2] at e4
         obtain ⟨p0, p1, p2⟩ := row3_cells HP8.out
         obtain ⟨q0, q1, q2⟩ := row3_cells HT8.out
         have HDA := Lh (And.intro hda hda2)
         clear hda hda2 hsa
         go_wp2_with fail
         go_still_tail 12, (by kernel_rfl)
         change wpList _ _ _ _ _ (World.drew _)
         go_upto_region 15 with (at_delete; refine wpList_delete_own _ rfl _ _ 77 9 rfl 3 keyed_str Tryz.underlying77 (plainElem (H := Value) Tryz.prog 3) (R.nb pd) da.names.length (namD da.names) rfl (HN.out.names HDA.out.2).2 _ _ rfl HKA.out ?_; intro W9 hown hturn; have HT9 := Lh (And.intro hown hturn); clear hown hturn)
         clear hl m0 m1 m2 m3 m4 e0 e1 e2 e3 e4 e5 p0 p1 p2 q0 q1 q2
         have hM := Mid.named (f := fun n => { n with names := delN n.names pa }) F8.out.md.drew HDA.out.1 HDA.out.2 (ns := delN da.names pa) (n := da.names.length) rfl (by have := HT9.out.1; rw [namD_del, tx_bts] at this; exact this) HT9.out.2.grown
         have F9 : Hid (Fr w R.L c W9 R (unnameP m pd pa)) := Lh ((F8.out.drewN 1).then hM)
         have HP9 := Lh (hM.row HP8.out.drew NP.out).1
         have HT9r := Lh (hM.row HT8.out.drew NT.out).1
         have HRD9 := Lh (HRD.out.unname pd pa)
         clear hM HT9 HN HDA F8 HP8 HT8 HRD
         obtain ⟨db, hdb, hdb2⟩ := HRD9.out.b
         have hsb := HRD9.out.all _ _ hdb
         have HNLB := Lh (show db.names.length < maxLen from by unfold maxLen; omega)
         obtain ⟨m0, m1, m2, m3, m4⟩ := F9.out.md.cells
         skip
         have hl := F9.out.md.drew.look hdb (by omega)
         have HN := Lh (F9.out.md.drew.nodes _ _ hdb)
         obtain ⟨e0, e1, e2, e3, e4, e5⟩ := (F9.out.md.nodes _ _ hdb).cells
         rw [if_pos hdb2] at e4
         obtain ⟨p0, p1, p2⟩ := row3_cells HP9.out
         obtain ⟨q0, q1, q2⟩ := row3_cells HT9r.out
         have HDB := Lh (And.intro hdb hdb2)
         clear hdb hdb2 hsb
         go_still_tail 14, (by kernel_rfl)
         change wpList _ _ _ _ _ (World.drew _)
         go_upto_region 16 with (at_mapUpdate; refine wpList_mapUpdate_in _ rfl _ _ _ 77 rfl 9 3 keyed_str Tryz.underlying77 (plainElem (H := Value) Tryz.prog 3) (R.nb qd) db.names.length (namD db.names) rfl (HN.out.names HDB.out.2).2 HNLB.out _ _ _ rfl rfl HKB.out (.lit (.int .i64 (k : Int))) [] (plainElem_int Tryz.underlying3 (WalkArith.wf_i64 (by have := HKZ.out; omega))) ?_; intro W10 hown hturn; have HT10 := Lh (And.intro hown hturn); clear hown hturn)
         clear hl m0 m1 m2 m3 m4 e0 e1 e2 e3 e4 e5 p0 p1 p2 q0 q1 q2
         have ho := HT10.out.1
         rw [namD_put, tx_bts] at ho
         have hM := Mid.named (f := fun n => { n with names := putN n.names qa k }) F9.out.md.drew HDB.out.1 HDB.out.2 rfl ho HT10.out.2.grown
         have F10 : Hid (Fr w R.L c W10 R (linkP (unnameP m pd pa) qd qa k)) := Lh ((F9.out.drewN 1).then hM)
         have HP10 := Lh (hM.row HP9.out.drew NP.out).1
         have HT10r := Lh (hM.row HT9r.out.drew NT.out).1
         have HRD10 := Lh (HRD9.out.link qd qa k)
         obtain ⟨m2', hm2'⟩ : ∃ x, x = linkP (unnameP m pd pa) qd qa k := ⟨_, rfl⟩
         rw [← hm2'] at F10 HRD10 HR0
         clear hm2' ho hM HT10 HN HDB F9 HP9 HT9r HRD9
         obtain ⟨dk, hdk, hdk2⟩ := HRD10.out.k
         have hsk := HRD10.out.all _ _ hdk
         obtain ⟨m0, m1, m2, m3, m4⟩ := F10.out.md.cells
         skip
         have L1 := fun n => (F10.out.md.drewN n).look hdk (by omega)
         obtain ⟨p0, p1, p2⟩ := row3_cells HP10.out
         have HDK := Lh (And.intro hdk hdk2)
         clear hdk hdk2 hsk
         go_wp2_with fail
         go_quiet (fail)
         clear L1 m0 m1 m2 m3 m4 p0 p1 p2
         have F11 := Lh (F10.out.drewN nq)
         have HP11 := Lh (HP10.out.same (w' := W10.drewN nq) rfl)
         have HT11 := Lh (HT10r.out.same (w' := W10.drewN nq) rfl)
         have HRD11 := HRD10
         clear F10 HP10 HT10r HRD10
         generalize W10.drewN nq = W11 at *
         obtain ⟨e0, e1, e2, e3, e4, e5⟩ := (F11.out.md.nodes _ _ HDK.out.1).cells
         by_cases hkk : dk.kind = 2
         · have hk3 : (dk.kind == 2) = true := by rw [beq_iff_eq]; exact hkk
           have HR0 : Hid (renameP m c = (An.zero, (linksP (linksP m2' pd (-1)) qd 1).set k fun n => { n with par := qd })) := by
            have h9 := HR0.out
            rw [Md.get_look HDK.out.1, if_pos hkk] at h9
            exact h9
           go_upto_region 18 with fail
           clear e0 e1 e2 e3 e4 e5 hk3 hkk
           obtain ⟨dd, hdd, hdd2⟩ := HRD11.out.a
           have hsd := HRD11.out.all _ _ hdd
           have hws : IntKind.i64.wrap (dd.links - 1) = dd.links - 1 := IntWalk.i64_in _ (by omega)
           obtain ⟨m0, m1, m2, m3, m4⟩ := F11.out.md.cells
           skip
           have hll := F11.out.md.drew.look hdd (by omega)
           obtain ⟨e0, e1, e2, e3, e4, e5⟩ := (F11.out.md.nodes _ _ hdd).cells
           have e6 := (F11.out.md.drew.nodes _ _ hdd).free (i := 1) (by omega)
           obtain ⟨p0, p1, p2⟩ := row3_cells HP11.out
           obtain ⟨q0, q1, q2⟩ := row3_cells HT11.out
           have hM : Mid W11.drew R.L (W11.drew.setCell ⟨R.g pd, 1, none⟩ (.int .i64 (dd.links - 1))) R (linksP m2' pd (-1)) := Mid.put F11.out.md.drew hdd 1 _ (by rw [sub_one]; rfl) rfl rfl rfl
           have F12 := Lh ((F11.out.drewN 1).then hM)
           have HP12 := Lh (hM.row HP11.out.drew NP.out).1
           have HT12 := Lh (hM.row HT11.out.drew NT.out).1
           have HRD12 := Lh (HRD11.out.links pd (-1) (by omega))
           clear hM hdd hsd
           go_wp2_with fail
           go_still_tail 13, (by kernel_rfl)
           change wpList _ _ _ _ _ (World.drew _)
           have e7 : W11.drew.cell? ⟨R.g pd, 1, none⟩ = some (.int .i64 dd.links) := e1
           generalize World.drew W11 = W11d at *
           go_upto_region 19 with fail
           generalize W11d.setCell ⟨R.g pd, 1, none⟩ (.int .i64 (dd.links - 1)) = W12 at *
           clear e0 e1 e2 e3 e4 e5 e6 e7 hll m0 m1 m2 m3 m4 p0 p1 p2 q0 q1 q2 F11 HP11 HT11 HRD11 hws hdd2
           obtain ⟨dd, hdd, hdd2⟩ := HRD12.out.b
           have hsd := HRD12.out.all _ _ hdd
           have hws : IntKind.i64.wrap (dd.links + 1) = dd.links + 1 := IntWalk.i64_in _ (by omega)
           obtain ⟨m0, m1, m2, m3, m4⟩ := F12.out.md.cells
           skip
           have hll := F12.out.md.drew.look hdd (by omega)
           obtain ⟨e0, e1, e2, e3, e4, e5⟩ := (F12.out.md.nodes _ _ hdd).cells
           have e6 := (F12.out.md.drew.nodes _ _ hdd).free (i := 1) (by omega)
           obtain ⟨p0, p1, p2⟩ := row3_cells HP12.out
           obtain ⟨q0, q1, q2⟩ := row3_cells HT12.out
           have hM : Mid W12.drew R.L (W12.drew.setCell ⟨R.g qd, 1, none⟩ (.int .i64 (dd.links + 1))) R (linksP (linksP m2' pd (-1)) qd (1)) := Mid.put F12.out.md.drew hdd 1 _ (by rfl) rfl rfl rfl
           have F13 := Lh ((F12.out.drewN 1).then hM)
           have HP13 := Lh (hM.row HP12.out.drew NP.out).1
           have HT13 := Lh (hM.row HT12.out.drew NT.out).1
           have HRD13 := Lh (HRD12.out.links qd (1) (by omega))
           clear hM hdd hsd
           go_wp2_with fail
           go_still_tail 13, (by kernel_rfl)
           change wpList _ _ _ _ _ (World.drew _)
           have e7 : W12.drew.cell? ⟨R.g qd, 1, none⟩ = some (.int .i64 dd.links) := e1
           generalize World.drew W12 = W12d at *
           go_upto_region 20 with fail
           generalize W12d.setCell ⟨R.g qd, 1, none⟩ (.int .i64 (dd.links + 1)) = W13 at *
           clear e0 e1 e2 e3 e4 e5 e6 e7 hll m0 m1 m2 m3 m4 p0 p1 p2 q0 q1 q2 F12 HP12 HT12 HRD12 hws hdd2
           obtain ⟨dn, hdn, hdn2⟩ := HRD13.out.k
           obtain ⟨q0, q1, q2⟩ := row3_cells HT13.out
           obtain ⟨e0, e1, e2, e3, e4, e5⟩ := (F13.out.md.nodes _ _ hdn).cells
           have e6 := (F13.out.md.nodes _ _ hdn).free (i := 5) (by omega)
           have F14 := Lh (F13.out.then (Mid.put F13.out.md hdn 5 (.int .i64 (qd : Int)) (f := fun n => { n with par := qd }) rfl rfl rfl rfl))
           clear hdn
           go_upto_region 21 with fail
           generalize W13.setCell ⟨R.g k, 5, none⟩ (.int .i64 (qd : Int)) = W14 at *
           clear e0 e1 e2 e3 e4 e5 e6 q0 q1 q2
           have HR := HR0
           obtain ⟨_, _, _, _, _, _, _, _, _, _, _, _, _, _, _, _, _, _, _, _⟩ := row10_all F14.out.ans
           go_wp2_with fail
           refine fin10 Tryz.results47 rfl rfl F14.out.ans ?_
           · unfold OpR
             rw [HR.out]
             refine ⟨rfl, R, ?_, rfl⟩
             repeat (refine Mid.other ?_ F14.out.nz (by omega) _ _)
             exact F14.out.mid
         · have hk3 : (dk.kind == 2) = false := by rw [beq_eq_false_iff_ne]; exact hkk
           have HR0 : Hid (renameP m c = (An.zero, m2'.set k fun n => { n with par := qd })) := by
            have h9 := HR0.out
            rw [Md.get_look HDK.out.1, if_neg hkk] at h9
            exact h9
           go_upto_region 20 with fail
           clear e0 e1 e2 e3 e4 e5 hk3 hkk
           obtain ⟨dn, hdn, hdn2⟩ := HRD11.out.k
           obtain ⟨q0, q1, q2⟩ := row3_cells HT11.out
           obtain ⟨e0, e1, e2, e3, e4, e5⟩ := (F11.out.md.nodes _ _ hdn).cells
           have e6 := (F11.out.md.nodes _ _ hdn).free (i := 5) (by omega)
           have F14 := Lh (F11.out.then (Mid.put F11.out.md hdn 5 (.int .i64 (qd : Int)) (f := fun n => { n with par := qd }) rfl rfl rfl rfl))
           clear hdn
           go_upto_region 21 with fail
           generalize W11.setCell ⟨R.g k, 5, none⟩ (.int .i64 (qd : Int)) = W14 at *
           clear e0 e1 e2 e3 e4 e5 e6 q0 q1 q2
           have HR := HR0
           obtain ⟨_, _, _, _, _, _, _, _, _, _, _, _, _, _, _, _, _, _, _, _⟩ := row10_all F14.out.ans
           go_wp2_with fail
           refine fin10 Tryz.results47 rfl rfl F14.out.ans ?_
           · unfold OpR
             rw [HR.out]
             refine ⟨rfl, R, ?_, rfl⟩
             repeat (refine Mid.other ?_ F14.out.nz (by omega) _ _)
             exact F14.out.mid
       · have HR := Lh (show renameP m c = (failA x, m) from by rw [HR1.out, if_pos hx0])
         have hx1 : (x != 0) = true := by rw [bne_iff_ne]; exact hx0
         clear hx0
         go_wp2_with fail
         refine (mfailed _ _).mono ?_
         rintro e W7 ⟨rfl, hb⟩
         have F7 := Lh (F6.out.below hb)
         clear hb F6
         obtain ⟨_, _, _, _, _, _, _, _, _, _, _, _, _, _, _, _, _, _, _, _⟩ := row10_all F7.out.ans
         unfold failV anV Stt.zero
         go_wp2_with fail
         refine fin10 Tryz.results47 rfl rfl F7.out.ans ?_
         · unfold OpR
           rw [HR.out]
           refine ⟨rfl, R, ?_, rfl⟩
           repeat (refine Mid.other ?_ F7.out.nz (by omega) _ _)
           exact F7.out.mid
     · obtain ⟨j, g5, g6⟩ := nodeAt_some (o := lookN dq.names qa) (by rw [← g4]; omega)
       obtain ⟨ej, g7⟩ := hG.names _ _ g1 _ (lookN_mem g5)
       have g8 : qn = (j : Int) := g4.trans g6
       subst g8
       have HJ := Lh (show lookK m.nodes j = some ej from g7)
       have HLQ := Lh (show lookN dq.names qa = some j from g5)
       clear g1 g2 g3 g4 g5 g6 g7 hy hG hneg
       by_cases hne : (k : Int) = (j : Int)
       · have HR := Lh (show renameP m c = (An.zero, m) from by rw [renameP, HQ.out, HY.out]; simp only []; rw [if_neg (by simp), if_neg (by simp), if_pos hne])
         have hne1 : ((k : Int) == (j : Int)) = true := by rw [beq_iff_eq]; exact hne
         clear hne
         have F0 := Fr.start h c 36 33
         go_enter Tryz.func47, Tryz.ntmps47
         go_upto_region 1 with fail
         generalize (w.alloc (.cells #[.int .i64 c.k, .string c.p, .string c.o, .int .i64 c.fd, .int .i64 c.n, .string c.d, .bool c.on] 36)).alloc (.cells #[.int .i64 0, .int .i64 0, .string ⟨#[]⟩, .slice none 0 0, .int .i64 0, .int .i64 0, .int .i64 0, .bool false, .slice none 0 0, .bool false] 33) = W1 at *
         have F1 := Lh F0
         clear F0
         obtain ⟨a0, a1, a2, a3, a4, a5, a6⟩ := row7_cells F1.out.call
         obtain ⟨m0, m1, m2, m3, m4⟩ := F1.out.md.cells
         go_wp2_with fail
         refine (HL.out _ F1.out.md).mono ?_
         rintro e W2 ⟨rfl, hb⟩
         have F2 := Lh (F1.out.below hb)
         skip
         have F3 := Lh (F2.out.alloc (.cells #[.int .i64 (pd : Int), .int .i64 (k : Int), .string (tx pa)] 118))
         skip
         have HP3 := Lh (rowAt_alloc W2 #[.int .i64 (pd : Int), .int .i64 (k : Int), .string (tx pa)] 118)
         have HPN := Lh (F2.out.md.fresh (Nat.le_refl W2.heap.size))
         have HPZ := F2.out.size
         clear hb F1 HL a0 a1 a2 a3 a4 a5 a6 m0 m1 m2 m3 m4
         go_upto_region 2 with fail
         generalize W2.alloc (.cells #[.int .i64 (pd : Int), .int .i64 (k : Int), .string (tx pa)] 118) = W3 at *
         clear F2
         obtain ⟨p0, p1, p2⟩ := row3_cells HP3.out
         obtain ⟨a0, a1, a2, a3, a4, a5, a6⟩ := row7_cells F3.out.call
         go_wp2_with fail
         refine (HL2.out _ F3.out.md).mono ?_
         rintro e W4 ⟨rfl, hb⟩
         have F4 := Lh (F3.out.below hb)
         have HP4 := Lh (HP3.out.below hb HP3.out.lt)
         clear HP3
         have F5 := Lh (F4.out.alloc (.cells #[.int .i64 (qd : Int), .int .i64 (j : Int), .string (tx qa)] 118))
         have HP5 := Lh (HP4.out.alloc (.cells #[.int .i64 (qd : Int), .int .i64 (j : Int), .string (tx qa)] 118))
         clear HP4
         have HT5 := Lh (rowAt_alloc W4 #[.int .i64 (qd : Int), .int .i64 (j : Int), .string (tx qa)] 118)
         have HTN := Lh (F4.out.md.fresh (Nat.le_refl W4.heap.size))
         have HTZ := F4.out.size
         clear hb F3 HL2 a0 a1 a2 a3 a4 a5 a6
         go_upto_region 5 with fail
         generalize W4.alloc (.cells #[.int .i64 (qd : Int), .int .i64 (j : Int), .string (tx qa)] 118) = W5 at *
         clear F4
         obtain ⟨p0, p1, p2⟩ := row3_cells HP5.out
         obtain ⟨q0, q1, q2⟩ := row3_cells HT5.out
         obtain ⟨_, _, _, _, _, _, _, _, _, _, _, _, _, _, _, _, _, _, _, _⟩ := row10_all F5.out.ans
         go_wp2_with fail
         refine fin10 Tryz.results47 rfl rfl F5.out.ans ?_
         · unfold OpR
           rw [HR.out]
           refine ⟨rfl, R, ?_, rfl⟩
           repeat (refine Mid.other ?_ F5.out.nz (by omega) _ _)
           exact F5.out.mid
       · have hne1 : ((k : Int) == (j : Int)) = false := by rw [beq_eq_false_iff_ne]; exact hne
         have F0 := Fr.start h c 36 33
         go_enter Tryz.func47, Tryz.ntmps47
         go_upto_region 1 with fail
         generalize (w.alloc (.cells #[.int .i64 c.k, .string c.p, .string c.o, .int .i64 c.fd, .int .i64 c.n, .string c.d, .bool c.on] 36)).alloc (.cells #[.int .i64 0, .int .i64 0, .string ⟨#[]⟩, .slice none 0 0, .int .i64 0, .int .i64 0, .int .i64 0, .bool false, .slice none 0 0, .bool false] 33) = W1 at *
         have F1 := Lh F0
         clear F0
         obtain ⟨a0, a1, a2, a3, a4, a5, a6⟩ := row7_cells F1.out.call
         obtain ⟨m0, m1, m2, m3, m4⟩ := F1.out.md.cells
         go_wp2_with fail
         refine (HL.out _ F1.out.md).mono ?_
         rintro e W2 ⟨rfl, hb⟩
         have F2 := Lh (F1.out.below hb)
         skip
         have F3 := Lh (F2.out.alloc (.cells #[.int .i64 (pd : Int), .int .i64 (k : Int), .string (tx pa)] 118))
         skip
         have HP3 := Lh (rowAt_alloc W2 #[.int .i64 (pd : Int), .int .i64 (k : Int), .string (tx pa)] 118)
         have HPN := Lh (F2.out.md.fresh (Nat.le_refl W2.heap.size))
         have HPZ := F2.out.size
         clear hb F1 HL a0 a1 a2 a3 a4 a5 a6 m0 m1 m2 m3 m4
         go_upto_region 2 with fail
         generalize W2.alloc (.cells #[.int .i64 (pd : Int), .int .i64 (k : Int), .string (tx pa)] 118) = W3 at *
         clear F2
         obtain ⟨p0, p1, p2⟩ := row3_cells HP3.out
         obtain ⟨a0, a1, a2, a3, a4, a5, a6⟩ := row7_cells F3.out.call
         go_wp2_with fail
         refine (HL2.out _ F3.out.md).mono ?_
         rintro e W4 ⟨rfl, hb⟩
         have F4 := Lh (F3.out.below hb)
         have HP4 := Lh (HP3.out.below hb HP3.out.lt)
         clear HP3
         have F5 := Lh (F4.out.alloc (.cells #[.int .i64 (qd : Int), .int .i64 (j : Int), .string (tx qa)] 118))
         have HP5 := Lh (HP4.out.alloc (.cells #[.int .i64 (qd : Int), .int .i64 (j : Int), .string (tx qa)] 118))
         clear HP4
         have HT5 := Lh (rowAt_alloc W4 #[.int .i64 (qd : Int), .int .i64 (j : Int), .string (tx qa)] 118)
         have HTN := Lh (F4.out.md.fresh (Nat.le_refl W4.heap.size))
         have HTZ := F4.out.size
         clear hb F3 HL2 a0 a1 a2 a3 a4 a5 a6
         go_upto_region 5 with fail
         generalize W4.alloc (.cells #[.int .i64 (qd : Int), .int .i64 (j : Int), .string (tx qa)] 118) = W5 at *
         clear F4
         obtain ⟨p0, p1, p2⟩ := row3_cells HP5.out
         obtain ⟨q0, q1, q2⟩ := row3_cells HT5.out
         have HR1 := Lh (show renameP m c = if mayP m ⟨pd, (k : Int), pa⟩ ⟨qd, (j : Int), qa⟩ ≠ 0 then (failA (mayP m ⟨pd, (k : Int), pa⟩ ⟨qd, (j : Int), qa⟩), m) else (An.zero, moveP m ⟨pd, (k : Int), pa⟩ ⟨qd, (j : Int), qa⟩) from by rw [renameP, HQ.out, HY.out]; simp only []; rw [if_neg (by simp), if_neg (by simp), if_neg hne])
         obtain ⟨x, hx⟩ : ∃ x, x = mayP m ⟨pd, (k : Int), pa⟩ ⟨qd, (j : Int), qa⟩ := ⟨_, rfl⟩
         have HMY := Lh (fun W (hW : MdAt W R m) => mmay_pos R m ⟨pd, (k : Int), pa⟩ ⟨qd, (j : Int), qa⟩ k j d ej W hW HG.out rfl HK.out ⟨dq, HDQ.out.1, HDQ.out.2⟩ rfl HJ.out)
         rw [← hx] at HMY HR1
         have HX := Lh hx
         clear hx
         go_wp2_with fail
         refine (HMY.out _ F5.out.md).mono ?_
         rintro e W6 ⟨rfl, hb⟩
         have F6 := Lh (F5.out.below hb)
         have HP6 := Lh (HP5.out.below hb HP5.out.lt)
         have HT6 := Lh (HT5.out.below hb HT5.out.lt)
         clear hb F5 HP5 HT5 HMY p0 p1 p2 q0 q1 q2
         by_cases hx0 : x = 0
         · subst hx0
           have hj3 : j ≠ pd ∧ j ≠ qd := by
            have h9 := mayP_pos (m := m) (a := ⟨pd, (k : Int), pa⟩) (b := ⟨qd, (j : Int), qa⟩) rfl HK.out rfl HJ.out
            rw [← HX.out] at h9
            by_cases he2 : ej.kind = 2
            · have hn0 : ej.names = [] := by
               cases hn : ej.names with
               | nil => rfl
               | cons u v =>
                rw [hn] at h9
                split at h9
                · omega
                · split at h9
                  · omega
                  · split at h9
                    · omega
                    · rw [if_pos (by simp)] at h9; omega
              refine ⟨fun hh => ?_, fun hh => ?_⟩
              · have h8 := HD.out
                rw [← hh, HJ.out] at h8
                have h7 := h8.2.2
                rw [← Option.some.inj h8.1, hn0] at h7
                simp [lookN] at h7
              · have h8 := HLQ.out
                have h6 := HDQ.out.1
                rw [← hh, HJ.out] at h6
                rw [← Option.some.inj h6, hn0] at h8
                simp [lookN] at h8
            · refine ⟨fun hh => ?_, fun hh => ?_⟩
              · have h8 := HD.out
                rw [← hh, HJ.out] at h8
                exact he2 (by rw [Option.some.inj h8.1]; exact h8.2.1)
              · have h6 := HDQ.out
                rw [← hh, HJ.out] at h6
                exact he2 (by rw [Option.some.inj h6.1]; exact h6.2)
           have hjk : j ≠ k := fun hh => hne (by rw [hh])
           have HR0 := Lh (show renameP m c = (An.zero, (if ((linkP (unnameP (dropP m ⟨qd, (j : Int), qa⟩) pd pa) qd qa k).get k).kind = 2 then linksP (linksP (linkP (unnameP (dropP m ⟨qd, (j : Int), qa⟩) pd pa) qd qa k) pd (-1)) qd 1 else linkP (unnameP (dropP m ⟨qd, (j : Int), qa⟩) pd pa) qd qa k).set k fun n => { n with par := qd }) from by rw [HR1.out, if_neg (by simp), moveP_pos])
           have HRD := Lh ((Ready.start HG.out ⟨dd, HD.out.1, HD.out.2.1⟩ ⟨dq, HDQ.out.1, HDQ.out.2⟩ HK.out).drop (b := ⟨qd, (j : Int), qa⟩) rfl hj3.1 hj3.2 hjk)
           have HDR := Lh (fun W (hW : MdAt W R m) => mdrop R m ⟨qd, (j : Int), qa⟩ j ej dq W hW HG.out rfl HJ.out HDQ.out.1 HDQ.out.2 hj3.2 HQL.out)
           obtain ⟨md, hmd⟩ : ∃ x, x = dropP m ⟨qd, (j : Int), qa⟩ := ⟨_, rfl⟩
           rw [← hmd] at HDR HRD HR0
           obtain ⟨q0, q1, q2⟩ := row3_cells HT6.out
           clear hj3 hjk hmd
           go_wp2_with fail
           refine (HDR.out _ F6.out.md).mono ?_
           rintro e W8 ⟨rfl, R', hM, hmb⟩
           have F8 := Lh (F6.out.then hM)
           have HP8 := Lh (hM.row HP6.out HPN.out).1
           have HT8 := Lh (hM.row HT6.out HTN.out).1
           have NP := Lh (hM.row HP6.out HPN.out).2
           have NT := Lh (hM.row HT6.out HTN.out).2
           have HMB := Lh hmb
           clear hM hmb F6 HP6 HT6 HPN HTN HDR HR1 HX q0 q1 q2
           obtain ⟨da, hda, hda2⟩ := HRD.out.a
           have hsa := HRD.out.all _ _ hda
           obtain ⟨m0, m1, m2, m3, m4⟩ := F8.out.md.cells
           rw [HMB.out] at m0 m1 m2 m3 m4
           have hl := F8.out.md.drew.look hda (by omega)
           have HN := Lh (F8.out.md.drew.nodes _ _ hda)
           obtain ⟨e0, e1, e2, e3, e4, e5⟩ := (F8.out.md.nodes _ _ hda).cells
           rw [if_pos hda2] at e4
           obtain ⟨p0, p1, p2⟩ := row3_cells HP8.out
           obtain ⟨q0, q1, q2⟩ := row3_cells HT8.out
           have HDA := Lh (And.intro hda hda2)
           clear hda hda2 hsa
           go_wp2_with fail
           go_still_tail 12, (by kernel_rfl)
           change wpList _ _ _ _ _ (World.drew _)
           go_upto_region 15 with (at_delete; refine wpList_delete_own _ rfl _ _ 77 9 rfl 3 keyed_str Tryz.underlying77 (plainElem (H := Value) Tryz.prog 3) (R'.nb pd) da.names.length (namD da.names) rfl (HN.out.names HDA.out.2).2 _ _ rfl HKA.out ?_; intro W9 hown hturn; have HT9 := Lh (And.intro hown hturn); clear hown hturn)
           clear hl m0 m1 m2 m3 m4 e0 e1 e2 e3 e4 e5 p0 p1 p2 q0 q1 q2
           have hM := Mid.named (f := fun n => { n with names := delN n.names pa }) F8.out.md.drew HDA.out.1 HDA.out.2 (ns := delN da.names pa) (n := da.names.length) rfl (by have := HT9.out.1; rw [namD_del, tx_bts] at this; exact this) HT9.out.2.grown
           have F9 : Hid (Fr w R.L c W9 R' (unnameP md pd pa)) := Lh ((F8.out.drewN 1).then hM)
           have HP9 := Lh (hM.row HP8.out.drew NP.out).1
           have HT9r := Lh (hM.row HT8.out.drew NT.out).1
           have HRD9 := Lh (HRD.out.unname pd pa)
           clear hM HT9 HN HDA F8 HP8 HT8 HRD
           obtain ⟨db, hdb, hdb2⟩ := HRD9.out.b
           have hsb := HRD9.out.all _ _ hdb
           have HNLB := Lh (show db.names.length < maxLen from by unfold maxLen; omega)
           obtain ⟨m0, m1, m2, m3, m4⟩ := F9.out.md.cells
           rw [HMB.out] at m0 m1 m2 m3 m4
           have hl := F9.out.md.drew.look hdb (by omega)
           have HN := Lh (F9.out.md.drew.nodes _ _ hdb)
           obtain ⟨e0, e1, e2, e3, e4, e5⟩ := (F9.out.md.nodes _ _ hdb).cells
           rw [if_pos hdb2] at e4
           obtain ⟨p0, p1, p2⟩ := row3_cells HP9.out
           obtain ⟨q0, q1, q2⟩ := row3_cells HT9r.out
           have HDB := Lh (And.intro hdb hdb2)
           clear hdb hdb2 hsb
           go_still_tail 14, (by kernel_rfl)
           change wpList _ _ _ _ _ (World.drew _)
           go_upto_region 16 with (at_mapUpdate; refine wpList_mapUpdate_in _ rfl _ _ _ 77 rfl 9 3 keyed_str Tryz.underlying77 (plainElem (H := Value) Tryz.prog 3) (R'.nb qd) db.names.length (namD db.names) rfl (HN.out.names HDB.out.2).2 HNLB.out _ _ _ rfl rfl HKB.out (.lit (.int .i64 (k : Int))) [] (plainElem_int Tryz.underlying3 (WalkArith.wf_i64 (by have := HKZ.out; omega))) ?_; intro W10 hown hturn; have HT10 := Lh (And.intro hown hturn); clear hown hturn)
           clear hl m0 m1 m2 m3 m4 e0 e1 e2 e3 e4 e5 p0 p1 p2 q0 q1 q2
           have ho := HT10.out.1
           rw [namD_put, tx_bts] at ho
           have hM := Mid.named (f := fun n => { n with names := putN n.names qa k }) F9.out.md.drew HDB.out.1 HDB.out.2 rfl ho HT10.out.2.grown
           have F10 : Hid (Fr w R.L c W10 R' (linkP (unnameP md pd pa) qd qa k)) := Lh ((F9.out.drewN 1).then hM)
           have HP10 := Lh (hM.row HP9.out.drew NP.out).1
           have HT10r := Lh (hM.row HT9r.out.drew NT.out).1
           have HRD10 := Lh (HRD9.out.link qd qa k)
           obtain ⟨m2', hm2'⟩ : ∃ x, x = linkP (unnameP md pd pa) qd qa k := ⟨_, rfl⟩
           rw [← hm2'] at F10 HRD10 HR0
           clear hm2' ho hM HT10 HN HDB F9 HP9 HT9r HRD9
           obtain ⟨dk, hdk, hdk2⟩ := HRD10.out.k
           have hsk := HRD10.out.all _ _ hdk
           obtain ⟨m0, m1, m2, m3, m4⟩ := F10.out.md.cells
           rw [HMB.out] at m0 m1 m2 m3 m4
           have L1 := fun n => (F10.out.md.drewN n).look hdk (by omega)
           obtain ⟨p0, p1, p2⟩ := row3_cells HP10.out
           have HDK := Lh (And.intro hdk hdk2)
           clear hdk hdk2 hsk
           go_wp2_with fail
           go_quiet (fail)
           clear L1 m0 m1 m2 m3 m4 p0 p1 p2
           have F11 := Lh (F10.out.drewN nq)
           have HP11 := Lh (HP10.out.same (w' := W10.drewN nq) rfl)
           have HT11 := Lh (HT10r.out.same (w' := W10.drewN nq) rfl)
           have HRD11 := HRD10
           clear F10 HP10 HT10r HRD10
           generalize W10.drewN nq = W11 at *
           obtain ⟨e0, e1, e2, e3, e4, e5⟩ := (F11.out.md.nodes _ _ HDK.out.1).cells
           by_cases hkk : dk.kind = 2
           · have hk3 : (dk.kind == 2) = true := by rw [beq_iff_eq]; exact hkk
             have HR0 : Hid (renameP m c = (An.zero, (linksP (linksP m2' pd (-1)) qd 1).set k fun n => { n with par := qd })) := by
              have h9 := HR0.out
              rw [Md.get_look HDK.out.1, if_pos hkk] at h9
              exact h9
             go_upto_region 18 with fail
             clear e0 e1 e2 e3 e4 e5 hk3 hkk
             obtain ⟨dd, hdd, hdd2⟩ := HRD11.out.a
             have hsd := HRD11.out.all _ _ hdd
             have hws : IntKind.i64.wrap (dd.links - 1) = dd.links - 1 := IntWalk.i64_in _ (by omega)
             obtain ⟨m0, m1, m2, m3, m4⟩ := F11.out.md.cells
             rw [HMB.out] at m0 m1 m2 m3 m4
             have hll := F11.out.md.drew.look hdd (by omega)
             obtain ⟨e0, e1, e2, e3, e4, e5⟩ := (F11.out.md.nodes _ _ hdd).cells
             have e6 := (F11.out.md.drew.nodes _ _ hdd).free (i := 1) (by omega)
             obtain ⟨p0, p1, p2⟩ := row3_cells HP11.out
             obtain ⟨q0, q1, q2⟩ := row3_cells HT11.out
             have hM : Mid W11.drew R'.L (W11.drew.setCell ⟨R'.g pd, 1, none⟩ (.int .i64 (dd.links - 1))) R' (linksP m2' pd (-1)) := Mid.put F11.out.md.drew hdd 1 _ (by rw [sub_one]; rfl) rfl rfl rfl
             have F12 := Lh ((F11.out.drewN 1).then hM)
             have HP12 := Lh (hM.row HP11.out.drew NP.out).1
             have HT12 := Lh (hM.row HT11.out.drew NT.out).1
             have HRD12 := Lh (HRD11.out.links pd (-1) (by omega))
             clear hM hdd hsd
             go_wp2_with fail
             go_still_tail 13, (by kernel_rfl)
             change wpList _ _ _ _ _ (World.drew _)
             have e7 : W11.drew.cell? ⟨R'.g pd, 1, none⟩ = some (.int .i64 dd.links) := e1
             generalize World.drew W11 = W11d at *
             go_upto_region 19 with fail
             generalize W11d.setCell ⟨R'.g pd, 1, none⟩ (.int .i64 (dd.links - 1)) = W12 at *
             clear e0 e1 e2 e3 e4 e5 e6 e7 hll m0 m1 m2 m3 m4 p0 p1 p2 q0 q1 q2 F11 HP11 HT11 HRD11 hws hdd2
             obtain ⟨dd, hdd, hdd2⟩ := HRD12.out.b
             have hsd := HRD12.out.all _ _ hdd
             have hws : IntKind.i64.wrap (dd.links + 1) = dd.links + 1 := IntWalk.i64_in _ (by omega)
             obtain ⟨m0, m1, m2, m3, m4⟩ := F12.out.md.cells
             rw [HMB.out] at m0 m1 m2 m3 m4
             have hll := F12.out.md.drew.look hdd (by omega)
             obtain ⟨e0, e1, e2, e3, e4, e5⟩ := (F12.out.md.nodes _ _ hdd).cells
             have e6 := (F12.out.md.drew.nodes _ _ hdd).free (i := 1) (by omega)
             obtain ⟨p0, p1, p2⟩ := row3_cells HP12.out
             obtain ⟨q0, q1, q2⟩ := row3_cells HT12.out
             have hM : Mid W12.drew R'.L (W12.drew.setCell ⟨R'.g qd, 1, none⟩ (.int .i64 (dd.links + 1))) R' (linksP (linksP m2' pd (-1)) qd (1)) := Mid.put F12.out.md.drew hdd 1 _ (by rfl) rfl rfl rfl
             have F13 := Lh ((F12.out.drewN 1).then hM)
             have HP13 := Lh (hM.row HP12.out.drew NP.out).1
             have HT13 := Lh (hM.row HT12.out.drew NT.out).1
             have HRD13 := Lh (HRD12.out.links qd (1) (by omega))
             clear hM hdd hsd
             go_wp2_with fail
             go_still_tail 13, (by kernel_rfl)
             change wpList _ _ _ _ _ (World.drew _)
             have e7 : W12.drew.cell? ⟨R'.g qd, 1, none⟩ = some (.int .i64 dd.links) := e1
             generalize World.drew W12 = W12d at *
             go_upto_region 20 with fail
             generalize W12d.setCell ⟨R'.g qd, 1, none⟩ (.int .i64 (dd.links + 1)) = W13 at *
             clear e0 e1 e2 e3 e4 e5 e6 e7 hll m0 m1 m2 m3 m4 p0 p1 p2 q0 q1 q2 F12 HP12 HT12 HRD12 hws hdd2
             obtain ⟨dn, hdn, hdn2⟩ := HRD13.out.k
             obtain ⟨q0, q1, q2⟩ := row3_cells HT13.out
             obtain ⟨e0, e1, e2, e3, e4, e5⟩ := (F13.out.md.nodes _ _ hdn).cells
             have e6 := (F13.out.md.nodes _ _ hdn).free (i := 5) (by omega)
             have F14 := Lh (F13.out.then (Mid.put F13.out.md hdn 5 (.int .i64 (qd : Int)) (f := fun n => { n with par := qd }) rfl rfl rfl rfl))
             clear hdn
             go_upto_region 21 with fail
             generalize W13.setCell ⟨R'.g k, 5, none⟩ (.int .i64 (qd : Int)) = W14 at *
             clear e0 e1 e2 e3 e4 e5 e6 q0 q1 q2
             have HR := HR0
             obtain ⟨_, _, _, _, _, _, _, _, _, _, _, _, _, _, _, _, _, _, _, _⟩ := row10_all F14.out.ans
             go_wp2_with fail
             refine fin10 Tryz.results47 rfl rfl F14.out.ans ?_
             · unfold OpR
               rw [HR.out]
               refine ⟨rfl, R', ?_, HMB.out⟩
               repeat (refine Mid.other ?_ F14.out.nz (by omega) _ _)
               exact F14.out.mid
           · have hk3 : (dk.kind == 2) = false := by rw [beq_eq_false_iff_ne]; exact hkk
             have HR0 : Hid (renameP m c = (An.zero, m2'.set k fun n => { n with par := qd })) := by
              have h9 := HR0.out
              rw [Md.get_look HDK.out.1, if_neg hkk] at h9
              exact h9
             go_upto_region 20 with fail
             clear e0 e1 e2 e3 e4 e5 hk3 hkk
             obtain ⟨dn, hdn, hdn2⟩ := HRD11.out.k
             obtain ⟨q0, q1, q2⟩ := row3_cells HT11.out
             obtain ⟨e0, e1, e2, e3, e4, e5⟩ := (F11.out.md.nodes _ _ hdn).cells
             have e6 := (F11.out.md.nodes _ _ hdn).free (i := 5) (by omega)
             have F14 := Lh (F11.out.then (Mid.put F11.out.md hdn 5 (.int .i64 (qd : Int)) (f := fun n => { n with par := qd }) rfl rfl rfl rfl))
             clear hdn
             go_upto_region 21 with fail
             generalize W11.setCell ⟨R'.g k, 5, none⟩ (.int .i64 (qd : Int)) = W14 at *
             clear e0 e1 e2 e3 e4 e5 e6 q0 q1 q2
             have HR := HR0
             obtain ⟨_, _, _, _, _, _, _, _, _, _, _, _, _, _, _, _, _, _, _, _⟩ := row10_all F14.out.ans
             go_wp2_with fail
             refine fin10 Tryz.results47 rfl rfl F14.out.ans ?_
             · unfold OpR
               rw [HR.out]
               refine ⟨rfl, R', ?_, HMB.out⟩
               repeat (refine Mid.other ?_ F14.out.nz (by omega) _ _)
               exact F14.out.mid
         · have HR := Lh (show renameP m c = (failA x, m) from by rw [HR1.out, if_pos hx0])
           have hx1 : (x != 0) = true := by rw [bne_iff_ne]; exact hx0
           clear hx0
           go_wp2_with fail
           refine (mfailed _ _).mono ?_
           rintro e W7 ⟨rfl, hb⟩
           have F7 := Lh (F6.out.below hb)
           clear hb F6
           obtain ⟨_, _, _, _, _, _, _, _, _, _, _, _, _, _, _, _, _, _, _, _⟩ := row10_all F7.out.ans
           unfold failV anV Stt.zero
           go_wp2_with fail
           refine fin10 Tryz.results47 rfl rfl F7.out.ans ?_
           · unfold OpR
             rw [HR.out]
             refine ⟨rfl, R, ?_, rfl⟩
             repeat (refine Mid.other ?_ F7.out.nz (by omega) _ _)
             exact F7.out.mid
   · have HR := Lh (show renameP m c = (failA y, m) from by rw [renameP, HQ.out, HY.out]; simp only []; rw [if_neg (by simp), if_pos hyz])
     have hy1 : (y != 0) = true := by rw [bne_iff_ne]; exact hyz
     clear hyz hy hG
     have F0 := Fr.start h c 36 33
     go_enter Tryz.func47, Tryz.ntmps47
     go_upto_region 1 with fail
     generalize (w.alloc (.cells #[.int .i64 c.k, .string c.p, .string c.o, .int .i64 c.fd, .int .i64 c.n, .string c.d, .bool c.on] 36)).alloc (.cells #[.int .i64 0, .int .i64 0, .string ⟨#[]⟩, .slice none 0 0, .int .i64 0, .int .i64 0, .int .i64 0, .bool false, .slice none 0 0, .bool false] 33) = W1 at *
     have F1 := Lh F0
     clear F0
     obtain ⟨a0, a1, a2, a3, a4, a5, a6⟩ := row7_cells F1.out.call
     obtain ⟨m0, m1, m2, m3, m4⟩ := F1.out.md.cells
     go_wp2_with fail
     refine (HL.out _ F1.out.md).mono ?_
     rintro e W2 ⟨rfl, hb⟩
     have F2 := Lh (F1.out.below hb)
     skip
     have F3 := Lh (F2.out.alloc (.cells #[.int .i64 (pd : Int), .int .i64 (k : Int), .string (tx pa)] 118))
     skip
     have HP3 := Lh (rowAt_alloc W2 #[.int .i64 (pd : Int), .int .i64 (k : Int), .string (tx pa)] 118)
     have HPN := Lh (F2.out.md.fresh (Nat.le_refl W2.heap.size))
     have HPZ := F2.out.size
     clear hb F1 HL a0 a1 a2 a3 a4 a5 a6 m0 m1 m2 m3 m4
     go_upto_region 2 with fail
     generalize W2.alloc (.cells #[.int .i64 (pd : Int), .int .i64 (k : Int), .string (tx pa)] 118) = W3 at *
     clear F2
     obtain ⟨p0, p1, p2⟩ := row3_cells HP3.out
     obtain ⟨a0, a1, a2, a3, a4, a5, a6⟩ := row7_cells F3.out.call
     go_wp2_with fail
     refine (HL2.out _ F3.out.md).mono ?_
     rintro e W4 ⟨rfl, hb⟩
     have F4 := Lh (F3.out.below hb)
     have HP4 := Lh (HP3.out.below hb HP3.out.lt)
     clear HP3
     have F5 := Lh (F4.out.alloc (.cells #[.int .i64 (qd : Int), .int .i64 qn, .string (tx qa)] 118))
     have HP5 := Lh (HP4.out.alloc (.cells #[.int .i64 (qd : Int), .int .i64 qn, .string (tx qa)] 118))
     clear HP4
     have HT5 := Lh (rowAt_alloc W4 #[.int .i64 (qd : Int), .int .i64 qn, .string (tx qa)] 118)
     have HTN := Lh (F4.out.md.fresh (Nat.le_refl W4.heap.size))
     have HTZ := F4.out.size
     clear hb F3 HL2 a0 a1 a2 a3 a4 a5 a6
     go_upto_region 5 with fail
     generalize W4.alloc (.cells #[.int .i64 (qd : Int), .int .i64 qn, .string (tx qa)] 118) = W5 at *
     clear F4
     obtain ⟨p0, p1, p2⟩ := row3_cells HP5.out
     obtain ⟨q0, q1, q2⟩ := row3_cells HT5.out
     clear HP5 HT5
     go_wp2_with fail
     refine (mfailed _ _).mono ?_
     rintro e W6 ⟨rfl, hb⟩
     have F6 := Lh (F5.out.below hb)
     clear hb F5
     obtain ⟨_, _, _, _, _, _, _, _, _, _, _, _, _, _, _, _, _, _, _, _⟩ := row10_all F6.out.ans
     unfold failV anV Stt.zero
     go_wp2_with fail
     refine fin10 Tryz.results47 rfl rfl F6.out.ans ?_
     · unfold OpR
       rw [HR.out]
       refine ⟨rfl, R, ?_, rfl⟩
       repeat (refine Mid.other ?_ F6.out.nz (by omega) _ _)
       exact F6.out.mid
 · have HR := Lh (show renameP m c = (failA z, m) from by rw [renameP, HQ.out]; simp only []; rw [if_pos hz])
   have hz1 : (z != 0) = true := by rw [bne_iff_ne]; exact hz
   clear hz hq hG
   have F0 := Fr.start h c 36 33
   go_enter Tryz.func47, Tryz.ntmps47
   go_upto_region 1 with fail
   generalize (w.alloc (.cells #[.int .i64 c.k, .string c.p, .string c.o, .int .i64 c.fd, .int .i64 c.n, .string c.d, .bool c.on] 36)).alloc (.cells #[.int .i64 0, .int .i64 0, .string ⟨#[]⟩, .slice none 0 0, .int .i64 0, .int .i64 0, .int .i64 0, .bool false, .slice none 0 0, .bool false] 33) = W1 at *
   have F1 := Lh F0
   clear F0
   obtain ⟨a0, a1, a2, a3, a4, a5, a6⟩ := row7_cells F1.out.call
   obtain ⟨m0, m1, m2, m3, m4⟩ := F1.out.md.cells
   go_wp2_with fail
   refine (HL.out _ F1.out.md).mono ?_
   rintro e W2 ⟨rfl, hb⟩
   have F2 := Lh (F1.out.below hb)
   skip
   have F3 := Lh (F2.out.alloc (.cells #[.int .i64 (pd : Int), .int .i64 pn, .string (tx pa)] 118))
   skip
   have HP3 := Lh (rowAt_alloc W2 #[.int .i64 (pd : Int), .int .i64 pn, .string (tx pa)] 118)
   have HPN := Lh (F2.out.md.fresh (Nat.le_refl W2.heap.size))
   have HPZ := F2.out.size
   clear hb F1 HL a0 a1 a2 a3 a4 a5 a6 m0 m1 m2 m3 m4
   go_upto_region 2 with fail
   generalize W2.alloc (.cells #[.int .i64 (pd : Int), .int .i64 pn, .string (tx pa)] 118) = W3 at *
   clear F2
   go_wp2_with fail
   refine (mfailed _ _).mono ?_
   rintro e W4 ⟨rfl, hb⟩
   have F4 := Lh (F3.out.below hb)
   clear hb F3
   obtain ⟨_, _, _, _, _, _, _, _, _, _, _, _, _, _, _, _, _, _, _, _⟩ := row10_all F4.out.ans
   unfold failV anV Stt.zero
   go_wp2_with fail
   refine fin10 Tryz.results47 rfl rfl F4.out.ans ?_
   · unfold OpR
     rw [HR.out]
     refine ⟨rfl, R, ?_, rfl⟩
     repeat (refine Mid.other ?_ F4.out.nz (by omega) _ _)
     exact F4.out.mid
end Go.Proofs.YtppdihpobokfnaaGreatDoor
