/- A part of a proof. -/
import Derived.Test.YtppdihpobokfnaaGreatDoorGW
set_option linter.unusedVariables false
set_option linter.unusedSimpArgs false
set_option maxRecDepth 100000
namespace Go.Proofs.YtppdihpobokfnaaGreatDoor
open Go.RowKit Go.Joins
set_option maxHeartbeats 4000000 in
theorem mlink (R : Rp) (m : Md) (c : Cl) (w : World) (h : MdAt w R m) (hG : Good m) :
  Calls Tryz.prog 45 #[.pointer (some ⟨R.mb, 0, none⟩), .agg #[.int .i64 c.k, .string c.p, .string c.o, .int .i64 c.fd, .int .i64 c.n, .string c.d, .bool c.on]] w (OpR w R (lnkP m c)) := by
 have HG := Lh hG
 obtain ⟨k, z, hq⟩ : ∃ k z, findP m (bts c.p) = (k, z) := ⟨_, _, rfl⟩
 obtain ⟨p, y, hy⟩ : ∃ p y, locateP m (bts c.o) = (p, y) := ⟨_, _, rfl⟩
 have hF := fun W (hW : MdAt W R m) => mfind R m c.p W hW hG
 have hL := fun W (hW : MdAt W R m) => mlocate R m c.o W hW hG
 rw [hq] at hF
 rw [hy] at hL
 unfold plV at hL
 have HL := Lh hL
 have HF := Lh hF
 have HQ := Lh hq
 have HY := Lh hy
 clear hy hL hF
 by_cases hz : z = 0
 · subst hz
   obtain ⟨d, hd⟩ := findP_there hG (p := bts c.p) (by rw [hq])
   rw [hq] at hd
   have HK := Lh (show lookK m.nodes k = some d from hd)
   clear hd hq hG
   have F0 := Fr.start h c 36 33
   go_enter Tryz.func45, Tryz.ntmps45
   go_upto_region 1 with fail
   generalize (w.alloc (.cells #[.int .i64 c.k, .string c.p, .string c.o, .int .i64 c.fd, .int .i64 c.n, .string c.d, .bool c.on] 36)).alloc (.cells #[.int .i64 0, .int .i64 0, .string ⟨#[]⟩, .slice none 0 0, .int .i64 0, .int .i64 0, .int .i64 0, .bool false, .slice none 0 0, .bool false] 33) = W1 at *
   have F1 := Lh F0
   clear F0
   obtain ⟨a0, a1, a2, a3, a4, a5, a6⟩ := row7_cells F1.out.call
   obtain ⟨m0, m1, m2, m3, m4⟩ := F1.out.md.cells
   go_wp2_with fail
   refine (HF.out _ F1.out.md).mono ?_
   rintro e W2 ⟨rfl, hb⟩
   have F2 := Lh (F1.out.below hb)
   clear hb F1 HF a0 a1 a2 a3 a4 a5 a6 m0 m1 m2 m3 m4
   obtain ⟨m0, m1, m2, m3, m4⟩ := F2.out.md.cells
   have hl := F2.out.md.look HK.out (by have := HG.out.small HK.out; omega)
   obtain ⟨e0, e1, e2, e3, e4, e5⟩ := (F2.out.md.nodes _ _ HK.out).cells
   by_cases hk : d.kind = 2
   · have HR := Lh (show lnkP m c = (failA 213, m) from by rw [lnkP, HQ.out]; simp only []; rw [if_neg (by simp), Md.get_look HK.out, if_pos hk])
     have hk1 : (d.kind == 2) = true := by rw [beq_iff_eq]; exact hk
     clear hk
     go_wp2_with fail
     refine (mfailed _ _).mono ?_
     rintro e W4 ⟨rfl, hb⟩
     have F4 := Lh (F2.out.below hb)
     clear hb F2
     obtain ⟨_, _, _, _, _, _, _, _, _, _, _, _, _, _, _, _, _, _, _, _⟩ := row10_all F4.out.ans
     unfold failV anV Stt.zero
     go_wp2_with fail
     refine fin10 Tryz.results45 rfl rfl F4.out.ans ?_
     · unfold OpR
       rw [HR.out]
       refine ⟨rfl, R, ?_, rfl⟩
       repeat (refine Mid.other ?_ F4.out.nz (by omega) _ _)
       exact F4.out.mid
   have hk1 : (d.kind == 2) = false := by rw [beq_eq_false_iff_ne]; exact hk
   obtain ⟨a0, a1, a2, a3, a4, a5, a6⟩ := row7_cells F2.out.call
   go_wp2_with fail
   refine (HL.out _ F2.out.md).mono ?_
   rintro e W4 ⟨rfl, hb⟩
   have F4 := Lh (F2.out.below hb)
   have F5 := Lh (F4.out.alloc (.cells #[.int .i64 (p.dir : Int), .int .i64 p.node, .string (tx p.name)] 118))
   have HP := Lh (rowAt_alloc W4 #[.int .i64 (p.dir : Int), .int .i64 p.node, .string (tx p.name)] 118)
   have HPN := Lh (F4.out.md.fresh (Nat.le_refl W4.heap.size))
   have HPZ := F4.out.size
   clear hb F2 HL a0 a1 a2 a3 a4 a5 a6 m0 m1 m2 m3 m4 e0 e1 e2 e3 e4 e5 hl
   go_upto_region 7 with fail
   generalize W4.alloc (.cells #[.int .i64 (p.dir : Int), .int .i64 p.node, .string (tx p.name)] 118) = W5 at *
   clear F4
   obtain ⟨p0, p1, p2⟩ := row3_cells HP.out
   by_cases hy : y = 0
   · subst hy
     obtain ⟨dd, hd, hd2, hnl, hnode⟩ := locateP_ok HG.out (p := bts c.o) (by rw [HY.out])
     rw [HY.out] at hd hnl hnode
     have HD := Lh (show lookK m.nodes p.dir = some dd ∧ dd.kind = 2 ∧ p.name.length ≤ 32 from ⟨hd, hd2, hnl⟩)
     clear hd hd2 hnl hnode
     by_cases hn : 0 ≤ p.node
     · have HR := Lh (show lnkP m c = (failA 211, m) from by rw [lnkP, HQ.out]; simp only []; rw [if_neg (by simp), Md.get_look HK.out, if_neg hk, HY.out]; simp [hn])
       go_wp2_with fail
       refine (mfailed _ _).mono ?_
       rintro e W6 ⟨rfl, hb⟩
       have F6 := Lh (F5.out.below hb)
       clear hb F5
       obtain ⟨_, _, _, _, _, _, _, _, _, _, _, _, _, _, _, _, _, _, _, _⟩ := row10_all F6.out.ans
       unfold failV anV Stt.zero
       go_wp2_with fail
       refine fin10 Tryz.results45 rfl rfl F6.out.ans ?_
       · unfold OpR
         rw [HR.out]
         refine ⟨rfl, R, ?_, rfl⟩
         repeat (refine Mid.other ?_ F6.out.nz (by omega) _ _)
         exact F6.out.mid
     obtain ⟨m0, m1, m2, m3, m4⟩ := F5.out.md.cells
     have hl5 := F5.out.md.look HK.out (by have := HG.out.small HK.out; omega)
     obtain ⟨e0, e1, e2, e3, e4, e5⟩ := (F5.out.md.nodes _ _ HK.out).cells
     by_cases hl : 100 ≤ d.links
     · have HR := Lh (show lnkP m c = (failA 215, m) from by rw [lnkP, HQ.out]; simp only []; rw [if_neg (by simp), Md.get_look HK.out, if_neg hk, HY.out]; simp only []; rw [if_neg (by simp), if_neg (by omega), if_pos hl])
       go_wp2_with fail
       refine (mfailed _ _).mono ?_
       rintro e W7 ⟨rfl, hb⟩
       have F7 := Lh (F5.out.below hb)
       clear hb F5
       obtain ⟨_, _, _, _, _, _, _, _, _, _, _, _, _, _, _, _, _, _, _, _⟩ := row10_all F7.out.ans
       unfold failV anV Stt.zero
       go_wp2_with fail
       refine fin10 Tryz.results45 rfl rfl F7.out.ans ?_
       · unfold OpR
         rw [HR.out]
         refine ⟨rfl, R, ?_, rfl⟩
         repeat (refine Mid.other ?_ F7.out.nz (by omega) _ _)
         exact F7.out.mid
     have HR := Lh (show lnkP m c = (An.zero, linksP (linkP m p.dir p.name k) k 1) from by rw [lnkP, HQ.out]; simp only []; rw [if_neg (by simp), Md.get_look HK.out, if_neg hk, HY.out]; simp only []; rw [if_neg (by simp), if_neg (by omega), if_neg hl])
     have hne : k ≠ p.dir := fun hh => hk (by have h9 := HD.out.1; rw [← hh, HK.out] at h9; rw [Option.some.inj h9]; exact HD.out.2.1)
     have HNE := Lh hne
     have hk7 : lookK (linkP m p.dir p.name k).nodes k = some d := (look_set_ne HNE.out).trans HK.out
     have HK7 := Lh hk7
     have hws : IntKind.i64.wrap (d.links + 1) = d.links + 1 := IntWalk.i64_in _ (by have := HG.out.links _ _ HK.out; omega)
     have HKR := Lh (show k ≤ 1000000 from by have := HG.out.small HK.out; omega)
     have HNL := Lh (show dd.names.length < maxLen from by have := HG.out.nlen _ _ HD.out.1; unfold maxLen; omega)
     have HKT := Lh (key_txt (s := tx p.name) (by rw [tx_size]; have := HD.out.2.2; omega))
     go_wp2_with fail
     clear hl5 e0 e1 e2 e3 e4 e5
     have F6 := F5
     have HP6 := HP
     clear F5 HP
     have hl6 := F6.out.md.drew.look HD.out.1 (by have := HG.out.small HD.out.1; omega)
     have HN6 := Lh (F6.out.md.drew.nodes _ _ HD.out.1)
     obtain ⟨e0, e1, e2, e3, e4, e5⟩ := (F6.out.md.nodes _ _ HD.out.1).cells
     rw [if_pos HD.out.2.1] at e4
     clear hne hk7
     go_still_tail 13, (by kernel_rfl)
     change wpList _ _ _ _ _ (World.drew _)
     go_upto_region 14 with (at_mapUpdate; refine wpList_mapUpdate_in _ rfl _ _ _ 77 rfl 9 3 keyed_str Tryz.underlying77 (plainElem (H := Value) Tryz.prog 3) (R.nb p.dir) dd.names.length (namD dd.names) rfl (HN6.out.names HD.out.2.1).2 HNL.out _ _ _ rfl rfl HKT.out (.lit (.int .i64 (k : Int))) [] (plainElem_int Tryz.underlying3 (WalkArith.wf_i64 (by have := HKR.out; omega))) ?_; intro W8 hown8 hturn8; have HT8 := Lh (And.intro hown8 hturn8); clear hown8 hturn8)
     have ho := HT8.out.1
     rw [namD_put, tx_bts] at ho
     have F8 := Lh ((F6.out.drewN 1).then (Mid.named (f := fun n => { n with names := putN n.names p.name k }) (F6.out.md.drewN 1) HD.out.1 HD.out.2.1 rfl ho HT8.out.2.grown))
     clear ho HT8 HN6 hl6 m0 m1 m2 m3 m4 e0 e1 e2 e3 e4 e5 p0 p1 p2 F6 HP6
     obtain ⟨m0, m1, m2, m3, m4⟩ := F8.out.md.cells
     have hll := F8.out.md.look HK7.out (by have := HKR.out; omega)
     obtain ⟨e0, e1, e2, e3, e4, e5⟩ := (F8.out.md.nodes _ _ HK7.out).cells
     have e6 := (F8.out.md.nodes _ _ HK7.out).free (i := 1) (by omega)
     have F9 := Lh (F8.out.then (Mid.put F8.out.md HK7.out 1 (.int .i64 (d.links + 1)) (f := fun n => { n with links := n.links + 1 }) rfl rfl rfl rfl))
     have e7 : W8.cell? ⟨R.g k, 1, none⟩ = some (.int .i64 d.links) := e1
     go_upto_region 15 with fail
     generalize W8.setCell ⟨R.g k, 1, none⟩ (.int .i64 (d.links + 1)) = W9 at *
     clear e0 e1 e2 e3 e4 e5 hll m0 m1 m2 m3 m4 F8
     clear e6 e7
     obtain ⟨_, _, _, _, _, _, _, _, _, _, _, _, _, _, _, _, _, _, _, _⟩ := row10_all F9.out.ans
     go_wp2_with fail
     refine fin10 Tryz.results45 rfl rfl F9.out.ans ?_
     · unfold OpR
       rw [HR.out]
       refine ⟨rfl, R, ?_, rfl⟩
       repeat (refine Mid.other ?_ F9.out.nz (by omega) _ _)
       exact F9.out.mid
   have HR := Lh (show lnkP m c = (failA y, m) from by rw [lnkP, HQ.out]; simp only []; rw [if_neg (by simp), Md.get_look HK.out, if_neg hk, HY.out]; simp only []; rw [if_pos hy])
   have hy1 : (y != 0) = true := by rw [bne_iff_ne]; exact hy
   clear hy
   go_wp2_with fail
   refine (mfailed _ _).mono ?_
   rintro e W6 ⟨rfl, hb⟩
   have F6 := Lh (F5.out.below hb)
   clear hb F5
   obtain ⟨_, _, _, _, _, _, _, _, _, _, _, _, _, _, _, _, _, _, _, _⟩ := row10_all F6.out.ans
   unfold failV anV Stt.zero
   go_wp2_with fail
   refine fin10 Tryz.results45 rfl rfl F6.out.ans ?_
   · unfold OpR
     rw [HR.out]
     refine ⟨rfl, R, ?_, rfl⟩
     repeat (refine Mid.other ?_ F6.out.nz (by omega) _ _)
     exact F6.out.mid
 · have HR := Lh (show lnkP m c = (failA z, m) from by rw [lnkP, HQ.out]; simp only []; rw [if_pos hz])
   have hz1 : (z != 0) = true := by rw [bne_iff_ne]; exact hz
   clear hz hq hG
   have F0 := Fr.start h c 36 33
   go_enter Tryz.func45, Tryz.ntmps45
   go_upto_region 1 with fail
   generalize (w.alloc (.cells #[.int .i64 c.k, .string c.p, .string c.o, .int .i64 c.fd, .int .i64 c.n, .string c.d, .bool c.on] 36)).alloc (.cells #[.int .i64 0, .int .i64 0, .string ⟨#[]⟩, .slice none 0 0, .int .i64 0, .int .i64 0, .int .i64 0, .bool false, .slice none 0 0, .bool false] 33) = W1 at *
   have F1 := Lh F0
   clear F0
   obtain ⟨a0, a1, a2, a3, a4, a5, a6⟩ := row7_cells F1.out.call
   obtain ⟨m0, m1, m2, m3, m4⟩ := F1.out.md.cells
   go_wp2_with fail
   refine (HF.out _ F1.out.md).mono ?_
   rintro e W2 ⟨rfl, hb⟩
   have F2 := Lh (F1.out.below hb)
   clear hb F1 HF a0 a1 a2 a3 a4 a5 a6 m0 m1 m2 m3 m4
   go_wp2_with fail
   refine (mfailed _ _).mono ?_
   rintro e W3 ⟨rfl, hb⟩
   have F3 := Lh (F2.out.below hb)
   clear hb F2
   obtain ⟨_, _, _, _, _, _, _, _, _, _, _, _, _, _, _, _, _, _, _, _⟩ := row10_all F3.out.ans
   unfold failV anV Stt.zero
   go_wp2_with fail
   refine fin10 Tryz.results45 rfl rfl F3.out.ans ?_
   · unfold OpR
     rw [HR.out]
     refine ⟨rfl, R, ?_, rfl⟩
     repeat (refine Mid.other ?_ F3.out.nz (by omega) _ _)
     exact F3.out.mid
end Go.Proofs.YtppdihpobokfnaaGreatDoor
