/- A part of a proof. -/
import Derived.Test.YtppdihpobokfnaaGreatDoorModW11
import Derived.Test.YtppdihpobokfnaaGreatDoorModW13
set_option linter.unusedVariables false
set_option linter.unusedSimpArgs false
set_option maxRecDepth 100000
namespace Go.Proofs.YtppdihpobokfnaaGreatDoor
open Go.RowKit Go.Joins
set_option maxHeartbeats 4000000 in
theorem mwrite (R : Rp) (m : Md) (c : Cl) (w : World) (h : MdAt w R m) (hG : Good m) :
  Calls Tryz.prog 40 #[.pointer (some ⟨R.mb, 0, none⟩), .agg #[.int .i64 c.k, .string c.p, .string c.o, .int .i64 c.fd, .int .i64 c.n, .string c.d, .bool c.on]] w (OpR w R (putP m c c.d.size)) := by
 have hP := fun W (hW : MdAt W R m) => mput R m c c.d.size W hW hG (Nat.le_refl _)
 generalize putP m c c.d.size = r at *
 have HP := Lh hP
 clear hG hP
 have F0 := Fr.start h c 36 33
 go_enter Tryz.func40, Tryz.ntmps40
 go_upto_region 1 with fail
 generalize (w.alloc (.cells #[.int .i64 c.k, .string c.p, .string c.o, .int .i64 c.fd, .int .i64 c.n, .string c.d, .bool c.on] 36)).alloc (.cells #[.int .i64 0, .int .i64 0, .string ⟨#[]⟩, .slice none 0 0, .int .i64 0, .int .i64 0, .int .i64 0, .bool false, .slice none 0 0, .bool false] 33) = W1 at *
 have F1 := Lh F0
 clear F0
 obtain ⟨a0, a1, a2, a3, a4, a5, a6⟩ := row7_cells F1.out.call
 go_wp2_with fail
 refine (HP.out _ F1.out.md).mono ?_
 rintro e W2 ⟨rfl, R9, hM, hmb⟩
 clear HP a0 a1 a2 a3 a4 a5 a6
 have F3 := Lh (F1.out.then hM)
 have HMB := Lh hmb
 clear hM hmb F1
 obtain ⟨_, _, _, _, _, _, _, _, _, _, _, _, _, _, _, _, _, _, _, _⟩ := row10_all F3.out.ans
 unfold ansC
 go_wp2_with fail
 refine fin10 Tryz.results40 rfl rfl F3.out.ans ?_
 · unfold OpR
   refine ⟨by unfold ansC; rfl, R9, ?_, HMB.out⟩
   repeat (refine Mid.other ?_ F3.out.nz (by omega) _ _)
   exact F3.out.mid
end Go.Proofs.YtppdihpobokfnaaGreatDoor
set_option linter.unusedVariables false
set_option linter.unusedSimpArgs false
set_option maxRecDepth 100000
namespace Go.Proofs.YtppdihpobokfnaaGreatDoor
open Go.RowKit Go.Joins
set_option maxHeartbeats 4000000 in
theorem mmkdir (R : Rp) (m : Md) (c : Cl) (w : World) (h : MdAt w R m) (hG : Good m) :
  Calls Tryz.prog 43 #[.pointer (some ⟨R.mb, 0, none⟩), .agg #[.int .i64 c.k, .string c.p, .string c.o, .int .i64 c.fd, .int .i64 c.n, .string c.d, .bool c.on]] w (OpR w R (mkdirP m c)) := by
 have HG := Lh hG
 obtain ⟨p, z, hq⟩ : ∃ p z, locateP m (bts c.p) = (p, z) := ⟨_, _, rfl⟩
 have hL := fun W (hW : MdAt W R m) => mlocate R m c.p W hW hG
 rw [hq] at hL
 unfold plV at hL
 have HL := Lh hL
 have HQ := Lh hq
 clear hq hL hG
 have F0 := Fr.start h c 36 33
 go_enter Tryz.func43, Tryz.ntmps43
 go_upto_region 1 with fail
 generalize (w.alloc (.cells #[.int .i64 c.k, .string c.p, .string c.o, .int .i64 c.fd, .int .i64 c.n, .string c.d, .bool c.on] 36)).alloc (.cells #[.int .i64 0, .int .i64 0, .string ⟨#[]⟩, .slice none 0 0, .int .i64 0, .int .i64 0, .int .i64 0, .bool false, .slice none 0 0, .bool false] 33) = W1 at *
 have F1 := Lh F0
 clear F0
 obtain ⟨a0, a1, a2, a3, a4, a5, a6⟩ := row7_cells F1.out.call
 obtain ⟨m0, m1, m2, m3, m4⟩ := F1.out.md.cells
 go_wp2_with fail
 refine (HL.out _ F1.out.md).mono ?_
 rintro e W2 ⟨rfl, hb⟩
 have F2 := Lh (F1.out.below hb)
 have F3 := Lh (F2.out.alloc (.cells #[.int .i64 (p.dir : Int), .int .i64 p.node, .string (tx p.name)] 118))
 have HP := Lh (rowAt_alloc W2 #[.int .i64 (p.dir : Int), .int .i64 p.node, .string (tx p.name)] 118)
 have HPN := Lh (F2.out.md.fresh (Nat.le_refl W2.heap.size))
 have HPZ := F2.out.size
 clear hb F1 HL a0 a1 a2 a3 a4 a5 a6 m0 m1 m2 m3 m4
 go_upto_region 2 with fail
 generalize W2.alloc (.cells #[.int .i64 (p.dir : Int), .int .i64 p.node, .string (tx p.name)] 118) = W3 at *
 clear F2
 obtain ⟨p0, p1, p2⟩ := row3_cells HP.out
 by_cases hz : z = 0
 · subst hz
   obtain ⟨dd, hd, hd2, hnl, hnode⟩ := locateP_ok HG.out (p := bts c.p) (by rw [HQ.out])
   rw [HQ.out] at hd hnl hnode
   have HD := Lh (And.intro hd (And.intro hd2 hnl))
   clear hd hd2 hnl hnode
   by_cases hn : 0 ≤ p.node
   · have HR := Lh (show mkdirP m c = (failA 211, m) from by rw [mkdirP, HQ.out]; simp [hn])
     go_wp2_with fail
     refine (mfailed _ _).mono ?_
     rintro e W3 ⟨rfl, hb⟩
     have F4 := Lh (F3.out.below hb)
     clear hb F3
     obtain ⟨_, _, _, _, _, _, _, _, _, _, _, _, _, _, _, _, _, _, _, _⟩ := row10_all F4.out.ans
     unfold failV anV Stt.zero
     go_wp2_with fail
     refine fin10 Tryz.results43 rfl rfl F4.out.ans ?_
     · unfold OpR
       rw [HR.out]
       refine ⟨rfl, R, ?_, rfl⟩
       repeat (refine Mid.other ?_ F4.out.nz (by omega) _ _)
       exact F4.out.mid
   obtain ⟨m0, m1, m2, m3, m4⟩ := F3.out.md.cells
   have L1 := fun n => (F3.out.md.drewN n).look HD.out.1 (by have := HG.out.small HD.out.1; omega)
   obtain ⟨e0, e1, e2, e3, e4, e5⟩ := (F3.out.md.nodes _ _ HD.out.1).cells
   go_wp2_with fail
   go_quiet (fail)
   clear L1 m0 m1 m2 m3 m4 e0 e1 e2 e3 e4 e5 p0 p1 p2
   have F4 := Lh (F3.out.drewN nq)
   have HP4 := Lh (HP.out.same (w' := W3.drewN nq) rfl)
   clear F3 HP
   generalize W3.drewN nq = W4 at *
   by_cases hl : 100 ≤ dd.links
   · have HR := Lh (show mkdirP m c = (failA 215, m) from by rw [mkdirP, HQ.out]; simp only []; rw [if_neg (by simp), if_neg (by omega), Md.get_look HD.out.1, if_pos hl])
     go_wp2_with fail
     refine (mfailed _ _).mono ?_
     rintro e W3 ⟨rfl, hb⟩
     have F5 := Lh (F4.out.below hb)
     clear hb F4
     obtain ⟨_, _, _, _, _, _, _, _, _, _, _, _, _, _, _, _, _, _, _, _⟩ := row10_all F5.out.ans
     unfold failV anV Stt.zero
     go_wp2_with fail
     refine fin10 Tryz.results43 rfl rfl F5.out.ans ?_
     · unfold OpR
       rw [HR.out]
       refine ⟨rfl, R, ?_, rfl⟩
       repeat (refine Mid.other ?_ F5.out.nz (by omega) _ _)
       exact F5.out.mid
   obtain ⟨f, hf⟩ : ∃ f, f = freshP m p 2 := ⟨_, rfl⟩
   have hFR := fun W (hW : MdAt W R m) => mfresh R m p 2 W hW HG.out ⟨dd, HD.out.1, HD.out.2.1⟩ (.inr rfl) (by have := HD.out.2.2; omega)
   rw [← hf] at hFR
   have HFR := Lh hFR
   have HF := Lh hf
   have HR0 := Lh (show mkdirP m c = if f.1.2 ≠ 0 then (failA f.1.2, m) else (An.zero, linksP f.2 p.dir 1) from by rw [mkdirP, HQ.out]; simp only []; rw [if_neg (by simp), if_neg (by omega), Md.get_look HD.out.1, if_neg hl, hf])
   obtain ⟨p0, p1, p2⟩ := row3_cells HP4.out
   clear hFR hf
   go_wp2_with fail
   refine (HFR.out _ F4.out.md).mono ?_
   rintro e W5 ⟨rfl, R', hM, hmb⟩
   have F5 := Lh (F4.out.then hM)
   have HP5 := Lh (hM.row HP4.out HPN.out)
   have HMB := Lh hmb
   clear hM hmb HFR F4 HP4 p0 p1 p2
   by_cases hfe : f.1.2 = 0
   · have HFE := Lh hfe
     have HR := Lh (show mkdirP m c = (An.zero, linksP f.2 p.dir 1) from by rw [HR0.out, if_neg (by rw [hfe]; simp)])
     have hd5 : lookK f.2.nodes p.dir = some { dd with names := putN dd.names p.name m.next } := by rw [HF.out]; exact freshP_dir (by rw [← HF.out]; exact hfe) HD.out.1
     have HD5 := Lh hd5
     have hws : IntKind.i64.wrap (dd.links + 1) = dd.links + 1 := IntWalk.i64_in _ (by have := HG.out.links _ _ HD.out.1; omega)
     rw [hfe]
     clear hd5 hfe
     obtain ⟨p0, p1, p2⟩ := row3_cells HP5.out.1
     obtain ⟨m0, m1, m2, m3, m4⟩ := F5.out.md.cells
     rw [HMB.out] at m0 m1 m2 m3 m4
     have hll := F5.out.md.drew.look HD5.out (by have := HG.out.small HD.out.1; omega)
     obtain ⟨e0, e1, e2, e3, e4, e5⟩ := (F5.out.md.nodes _ _ HD5.out).cells
     have e6 := (F5.out.md.drew.nodes _ _ HD5.out).free (i := 1) (by omega)
     have F6 := Lh (F5.out.drew.then (Mid.put F5.out.md.drew HD5.out 1 (.int .i64 (dd.links + 1)) (f := fun n => { n with links := n.links + 1 }) rfl rfl rfl rfl))
     go_wp2_with fail
     go_still_tail 13, (by kernel_rfl)
     change wpList _ _ _ _ _ (World.drew _)
     have e7 : W5.drew.cell? ⟨R'.g p.dir, 1, none⟩ = some (.int .i64 dd.links) := e1
     clear e0 e1 e2 e3 e4 e5 hll m0 m1 m2 m3 m4 p0 p1 p2 F5 HP5
     generalize World.drew W5 = W5d at *
     go_upto_region 12 with fail
     generalize W5d.setCell ⟨R'.g p.dir, 1, none⟩ (.int .i64 (dd.links + 1)) = W6 at *
     clear e6 e7
     obtain ⟨_, _, _, _, _, _, _, _, _, _, _, _, _, _, _, _, _, _, _, _⟩ := row10_all F6.out.ans
     go_wp2_with fail
     refine fin10 Tryz.results43 rfl rfl F6.out.ans ?_
     · unfold OpR
       rw [HR.out]
       refine ⟨rfl, R', ?_, HMB.out⟩
       repeat (refine Mid.other ?_ F6.out.nz (by omega) _ _)
       exact F6.out.mid
   · have HR := Lh (show mkdirP m c = (failA f.1.2, m) from by rw [HR0.out, if_pos hfe])
     have hfm : f.2 = m := by rw [HF.out]; exact freshP_err (by rw [← HF.out]; exact hfe)
     have F5 : Hid (Fr w R.L c W5 R' m) := by have h9 := F5.out; rw [hfm] at h9; exact h9
     have hfe1 : (f.1.2 != 0) = true := by rw [bne_iff_ne]; exact hfe
     clear hfe hfm
     go_wp2_with fail
     refine (mfailed _ _).mono ?_
     rintro e W3 ⟨rfl, hb⟩
     have F6 := Lh (F5.out.below hb)
     clear hb F5
     obtain ⟨_, _, _, _, _, _, _, _, _, _, _, _, _, _, _, _, _, _, _, _⟩ := row10_all F6.out.ans
     unfold failV anV Stt.zero
     go_wp2_with fail
     refine fin10 Tryz.results43 rfl rfl F6.out.ans ?_
     · unfold OpR
       rw [HR.out]
       refine ⟨rfl, R', ?_, HMB.out⟩
       repeat (refine Mid.other ?_ F6.out.nz (by omega) _ _)
       exact F6.out.mid
 · have HR := Lh (show mkdirP m c = (failA z, m) from by rw [mkdirP, HQ.out]; simp only []; rw [if_pos hz])
   have hz1 : (z != 0) = true := by rw [bne_iff_ne]; exact hz
   clear hz
   go_wp2_with fail
   refine (mfailed _ _).mono ?_
   rintro e W3 ⟨rfl, hb⟩
   have F4 := Lh (F3.out.below hb)
   clear hb F3
   obtain ⟨_, _, _, _, _, _, _, _, _, _, _, _, _, _, _, _, _, _, _, _⟩ := row10_all F4.out.ans
   unfold failV anV Stt.zero
   go_wp2_with fail
   refine fin10 Tryz.results43 rfl rfl F4.out.ans ?_
   · unfold OpR
     rw [HR.out]
     refine ⟨rfl, R, ?_, rfl⟩
     repeat (refine Mid.other ?_ F4.out.nz (by omega) _ _)
     exact F4.out.mid
end Go.Proofs.YtppdihpobokfnaaGreatDoor
