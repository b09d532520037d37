/- A part of a proof. -/
import Derived.Test.YtppdihpobokfnaaGreatDoorModW13
set_option linter.unusedVariables false
set_option linter.unusedSimpArgs false
set_option maxRecDepth 100000
namespace Go.Proofs.YtppdihpobokfnaaGreatDoor
open Go.RowKit Go.Joins
set_option maxHeartbeats 4000000 in
theorem munlink (R : Rp) (m : Md) (c : Cl) (w : World) (h : MdAt w R m) (hG : Good m) :
  Calls Tryz.prog 46 #[.pointer (some ⟨R.mb, 0, none⟩), .agg #[.int .i64 c.k, .string c.p, .string c.o, .int .i64 c.fd, .int .i64 c.n, .string c.d, .bool c.on]] w (OpR w R (unlinkP m c)) := by
 have HG := Lh hG
 obtain ⟨pd, pn, pa, z, hq⟩ : ∃ pd pn pa z, thereP m (bts c.p) = (⟨pd, pn, pa⟩, z) := ⟨_, _, _, _, rfl⟩
 have hL := fun W (hW : MdAt W R m) => mthere R m c.p W hW hG
 rw [hq] at hL
 unfold plV at hL
 have HL := Lh hL
 have HQ := Lh hq
 clear hL
 by_cases hz : z = 0
 · subst hz
   obtain ⟨dd, k, d, h1, h2, h3, h4, h5, h6⟩ := thereP_ok hG (p := bts c.p) (by rw [hq])
   rw [hq] at h1 h3 h4 h5
   have h5 : pn = (k : Int) := h5
   subst h5
   have HD := Lh h1
   have HD2 := Lh h2
   have HNL := Lh (show pa.length ≤ 1000000 from by have h3' : pa.length ≤ 32 := h3; omega)
   have HLK := Lh (show lookN dd.names pa = some k from h4)
   have HK := Lh h6
   clear h1 h2 h3 h4 h5 h6 hq hG
   have F0 := Fr.start h c 36 33
   go_enter Tryz.func46, Tryz.ntmps46
   go_upto_region 1 with fail
   generalize (w.alloc (.cells #[.int .i64 c.k, .string c.p, .string c.o, .int .i64 c.fd, .int .i64 c.n, .string c.d, .bool c.on] 36)).alloc (.cells #[.int .i64 0, .int .i64 0, .string ⟨#[]⟩, .slice none 0 0, .int .i64 0, .int .i64 0, .int .i64 0, .bool false, .slice none 0 0, .bool false] 33) = W1 at *
   have F1 := Lh F0
   clear F0
   obtain ⟨a0, a1, a2, a3, a4, a5, a6⟩ := row7_cells F1.out.call
   obtain ⟨m0, m1, m2, m3, m4⟩ := F1.out.md.cells
   go_wp2_with fail
   refine (HL.out _ F1.out.md).mono ?_
   rintro e W2 ⟨rfl, hb⟩
   have F2 := Lh (F1.out.below hb)
   have F3 := Lh (F2.out.alloc (.cells #[.int .i64 (pd : Int), .int .i64 (k : Int), .string (tx pa)] 118))
   have HP := Lh (rowAt_alloc W2 #[.int .i64 (pd : Int), .int .i64 (k : Int), .string (tx pa)] 118)
   have HPN := Lh (F2.out.md.fresh (Nat.le_refl W2.heap.size))
   have HPZ := F2.out.size
   clear hb F1 HL a0 a1 a2 a3 a4 a5 a6 m0 m1 m2 m3 m4
   go_upto_region 2 with fail
   generalize W2.alloc (.cells #[.int .i64 (pd : Int), .int .i64 (k : Int), .string (tx pa)] 118) = W3 at *
   clear F2
   obtain ⟨p0, p1, p2⟩ := row3_cells HP.out
   obtain ⟨m0, m1, m2, m3, m4⟩ := F3.out.md.cells
   have L1 := fun n => (F3.out.md.drewN n).look HK.out (by have := HG.out.small HK.out; omega)
   obtain ⟨e0, e1, e2, e3, e4, e5⟩ := (F3.out.md.nodes _ _ HK.out).cells
   go_wp2_with fail
   go_quiet (fail)
   clear L1 m0 m1 m2 m3 m4 e0 e1 e2 e3 e4 e5 p0 p1 p2
   have F4 := Lh (F3.out.drewN nq)
   have HP4 := Lh (HP.out.same (w' := W3.drewN nq) rfl)
   clear F3 HP
   generalize W3.drewN nq = W4 at *
   by_cases hk : d.kind = 2
   · have HR := Lh (show unlinkP m c = (failA 213, m) from by rw [unlinkP, HQ.out]; simp only []; rw [if_neg (by simp), Int.toNat_natCast, Md.get_look HK.out, if_pos hk])
     have hk1 : (d.kind == 2) = true := by rw [beq_iff_eq]; exact hk
     clear hk
     go_wp2_with fail
     refine (mfailed _ _).mono ?_
     rintro e W5 ⟨rfl, hb⟩
     have F5 := Lh (F4.out.below hb)
     clear hb F4
     obtain ⟨_, _, _, _, _, _, _, _, _, _, _, _, _, _, _, _, _, _, _, _⟩ := row10_all F5.out.ans
     unfold failV anV Stt.zero
     go_wp2_with fail
     refine fin10 Tryz.results46 rfl rfl F5.out.ans ?_
     · unfold OpR
       rw [HR.out]
       refine ⟨rfl, R, ?_, rfl⟩
       repeat (refine Mid.other ?_ F5.out.nz (by omega) _ _)
       exact F5.out.mid
   · have hk1 : (d.kind == 2) = false := by rw [beq_eq_false_iff_ne]; exact hk
     have HR := Lh (show unlinkP m c = (An.zero, dropP m ⟨pd, (k : Int), pa⟩) from by rw [unlinkP, HQ.out]; simp only []; rw [if_neg (by simp), Int.toNat_natCast, Md.get_look HK.out, if_neg hk])
     have hne : k ≠ pd := fun hh => hk (by subst hh; have := HK.out.symm.trans HD.out; cases this; exact HD2.out)
     have HDR := Lh (fun W (hW : MdAt W R m) => mdrop R m ⟨pd, (k : Int), pa⟩ k d dd W hW HG.out rfl HK.out HD.out HD2.out hne HNL.out)
     obtain ⟨p0, p1, p2⟩ := row3_cells HP4.out
     clear hne
     go_wp2_with fail
     refine (HDR.out _ F4.out.md).mono ?_
     rintro e W5 ⟨rfl, R', hM, hmb⟩
     have F5 := Lh (F4.out.then hM)
     have HMB := Lh hmb
     clear hM hmb HDR F4 HP4 p0 p1 p2
     obtain ⟨_, _, _, _, _, _, _, _, _, _, _, _, _, _, _, _, _, _, _, _⟩ := row10_all F5.out.ans
     go_wp2_with fail
     refine fin10 Tryz.results46 rfl rfl F5.out.ans ?_
     · unfold OpR
       rw [HR.out]
       refine ⟨rfl, R', ?_, HMB.out⟩
       repeat (refine Mid.other ?_ F5.out.nz (by omega) _ _)
       exact F5.out.mid
 · have HR := Lh (show unlinkP m c = (failA z, m) from by rw [unlinkP, HQ.out]; simp only []; rw [if_pos hz])
   have hz1 : (z != 0) = true := by rw [bne_iff_ne]; exact hz
   clear hz hq hG
   have F0 := Fr.start h c 36 33
   go_enter Tryz.func46, Tryz.ntmps46
   go_upto_region 1 with fail
   generalize (w.alloc (.cells #[.int .i64 c.k, .string c.p, .string c.o, .int .i64 c.fd, .int .i64 c.n, .string c.d, .bool c.on] 36)).alloc (.cells #[.int .i64 0, .int .i64 0, .string ⟨#[]⟩, .slice none 0 0, .int .i64 0, .int .i64 0, .int .i64 0, .bool false, .slice none 0 0, .bool false] 33) = W1 at *
   have F1 := Lh F0
   clear F0
   obtain ⟨a0, a1, a2, a3, a4, a5, a6⟩ := row7_cells F1.out.call
   obtain ⟨m0, m1, m2, m3, m4⟩ := F1.out.md.cells
   go_wp2_with fail
   refine (HL.out _ F1.out.md).mono ?_
   rintro e W2 ⟨rfl, hb⟩
   have F2 := Lh (F1.out.below hb)
   have F3 := Lh (F2.out.alloc (.cells #[.int .i64 (pd : Int), .int .i64 pn, .string (tx pa)] 118))
   have HP := Lh (rowAt_alloc W2 #[.int .i64 (pd : Int), .int .i64 pn, .string (tx pa)] 118)
   have HPN := Lh (F2.out.md.fresh (Nat.le_refl W2.heap.size))
   have HPZ := F2.out.size
   clear hb F1 HL a0 a1 a2 a3 a4 a5 a6 m0 m1 m2 m3 m4
   go_upto_region 2 with fail
   generalize W2.alloc (.cells #[.int .i64 (pd : Int), .int .i64 pn, .string (tx pa)] 118) = W3 at *
   clear F2
   obtain ⟨p0, p1, p2⟩ := row3_cells HP.out
   go_wp2_with fail
   refine (mfailed _ _).mono ?_
   rintro e W3 ⟨rfl, hb⟩
   have F4 := Lh (F3.out.below hb)
   clear hb F3
   obtain ⟨_, _, _, _, _, _, _, _, _, _, _, _, _, _, _, _, _, _, _, _⟩ := row10_all F4.out.ans
   unfold failV anV Stt.zero
   go_wp2_with fail
   refine fin10 Tryz.results46 rfl rfl F4.out.ans ?_
   · unfold OpR
     rw [HR.out]
     refine ⟨rfl, R, ?_, rfl⟩
     repeat (refine Mid.other ?_ F4.out.nz (by omega) _ _)
     exact F4.out.mid
end Go.Proofs.YtppdihpobokfnaaGreatDoor
set_option linter.unusedVariables false
set_option linter.unusedSimpArgs false
set_option maxRecDepth 100000
namespace Go.Proofs.YtppdihpobokfnaaGreatDoor
open Go.RowKit Go.Joins
set_option maxHeartbeats 4000000 in
theorem mrmdir (R : Rp) (m : Md) (c : Cl) (w : World) (h : MdAt w R m) (hG : Good m) :
  Calls Tryz.prog 44 #[.pointer (some ⟨R.mb, 0, none⟩), .agg #[.int .i64 c.k, .string c.p, .string c.o, .int .i64 c.fd, .int .i64 c.n, .string c.d, .bool c.on]] w (OpR w R (rmdirP m c)) := by
 have HG := Lh hG
 obtain ⟨pd, pn, pa, z, hq⟩ : ∃ pd pn pa z, thereP m (bts c.p) = (⟨pd, pn, pa⟩, z) := ⟨_, _, _, _, rfl⟩
 have hL := fun W (hW : MdAt W R m) => mthere R m c.p W hW hG
 rw [hq] at hL
 unfold plV at hL
 have HL := Lh hL
 have HQ := Lh hq
 clear hL
 by_cases hz : z = 0
 · subst hz
   obtain ⟨dd, k, d, h1, h2, h3, h4, h5, h6⟩ := thereP_ok hG (p := bts c.p) (by rw [hq])
   rw [hq] at h1 h3 h4 h5
   have h5 : pn = (k : Int) := h5
   subst h5
   have HD := Lh h1
   have HD2 := Lh h2
   have HNL := Lh (show pa.length ≤ 1000000 from by have h3' : pa.length ≤ 32 := h3; omega)
   have HLK := Lh (show lookN dd.names pa = some k from h4)
   have HK := Lh h6
   clear h1 h2 h3 h4 h5 h6 hq hG
   have F0 := Fr.start h c 36 33
   go_enter Tryz.func44, Tryz.ntmps44
   go_upto_region 1 with fail
   generalize (w.alloc (.cells #[.int .i64 c.k, .string c.p, .string c.o, .int .i64 c.fd, .int .i64 c.n, .string c.d, .bool c.on] 36)).alloc (.cells #[.int .i64 0, .int .i64 0, .string ⟨#[]⟩, .slice none 0 0, .int .i64 0, .int .i64 0, .int .i64 0, .bool false, .slice none 0 0, .bool false] 33) = W1 at *
   have F1 := Lh F0
   clear F0
   obtain ⟨a0, a1, a2, a3, a4, a5, a6⟩ := row7_cells F1.out.call
   obtain ⟨m0, m1, m2, m3, m4⟩ := F1.out.md.cells
   go_wp2_with fail
   refine (HL.out _ F1.out.md).mono ?_
   rintro e W2 ⟨rfl, hb⟩
   have F2 := Lh (F1.out.below hb)
   have F3 := Lh (F2.out.alloc (.cells #[.int .i64 (pd : Int), .int .i64 (k : Int), .string (tx pa)] 118))
   have HP := Lh (rowAt_alloc W2 #[.int .i64 (pd : Int), .int .i64 (k : Int), .string (tx pa)] 118)
   have HPN := Lh (F2.out.md.fresh (Nat.le_refl W2.heap.size))
   have HPZ := F2.out.size
   clear hb F1 HL a0 a1 a2 a3 a4 a5 a6 m0 m1 m2 m3 m4
   go_upto_region 2 with fail
   generalize W2.alloc (.cells #[.int .i64 (pd : Int), .int .i64 (k : Int), .string (tx pa)] 118) = W3 at *
   clear F2
   obtain ⟨p0, p1, p2⟩ := row3_cells HP.out
   obtain ⟨m0, m1, m2, m3, m4⟩ := F3.out.md.cells
   have L1 := fun n => (F3.out.md.drewN n).look HK.out (by have := HG.out.small HK.out; omega)
   obtain ⟨e0, e1, e2, e3, e4, e5⟩ := (F3.out.md.nodes _ _ HK.out).cells
   go_wp2_with fail
   go_quiet (fail)
   clear L1 m0 m1 m2 m3 m4 e0 e1 e2 e3 e4 e5 p0 p1 p2
   have F4 := Lh (F3.out.drewN nq)
   have HP4 := Lh (HP.out.same (w' := W3.drewN nq) rfl)
   clear F3 HP
   generalize W3.drewN nq = W4 at *
   have HNE := Lh (show 0 < d.names.length ∨ k ≠ pd from by
    by_cases h : k = pd
    · subst h
      left
      have h9 := HK.out.symm.trans HD.out
      have h10 : d = dd := Option.some.inj h9
      have h9 := HLK.out
      rw [h10]
      rw [lookN] at h9
      cases hn : dd.names with
      | nil => rw [hn] at h9; simp at h9
      | cons x r => simp
    · exact .inr h)
   by_cases hk : d.kind = 2
   · have hk1 : (d.kind != 2) = false := by rw [hk]; rfl
     have HP4c := Lh (row3_cells HP4.out)
     obtain ⟨m0, m1, m2, m3, m4⟩ := F4.out.md.cells
     have L1 := fun n => (F4.out.md.drewN n).look HK.out (by have := HG.out.small HK.out; omega)
     have L2 := fun n => ((F4.out.md.drewN n).nodes _ _ HK.out).many 3
     obtain ⟨e0, e1, e2, e3, e4, e5⟩ := (F4.out.md.nodes _ _ HK.out).cells
     rw [if_pos hk] at e4 L2
     obtain ⟨p0, p1, p2⟩ := HP4c.out
     go_wp2_with fail
     go_quiet (fail)
     clear L1 L2 m0 m1 m2 m3 m4 e0 e1 e2 e3 e4 e5 p0 p1 p2
     have F5 := Lh (F4.out.drewN nq)
     have HP5 := Lh (HP4.out.same (w' := W4.drewN nq) rfl)
     clear F4 HP4 HP4c
     generalize W4.drewN nq = W5 at *
     by_cases hl : 0 < (d.names.length : Int)
     · have HR := Lh (show rmdirP m c = (failA 214, m) from by rw [rmdirP, HQ.out]; simp only []; rw [if_neg (by simp), Int.toNat_natCast, Md.get_look HK.out, if_neg (by simpa using hk), if_pos (by omega)])
       go_wp2_with fail
       refine (mfailed _ _).mono ?_
       rintro e W6 ⟨rfl, hb⟩
       have F6 := Lh (F5.out.below hb)
       clear hb F5
       obtain ⟨_, _, _, _, _, _, _, _, _, _, _, _, _, _, _, _, _, _, _, _⟩ := row10_all F6.out.ans
       unfold failV anV Stt.zero
       go_wp2_with fail
       refine fin10 Tryz.results44 rfl rfl F6.out.ans ?_
       · unfold OpR
         rw [HR.out]
         refine ⟨rfl, R, ?_, rfl⟩
         repeat (refine Mid.other ?_ F6.out.nz (by omega) _ _)
         exact F6.out.mid
     · have hl0 : ¬ 0 < d.names.length := by omega
       have HR := Lh (show rmdirP m c = (An.zero, dropP m ⟨pd, (k : Int), pa⟩) from by rw [rmdirP, HQ.out]; simp only []; rw [if_neg (by simp), Int.toNat_natCast, Md.get_look HK.out, if_neg (by simpa using hk), if_neg hl0])
       have hne : k ≠ pd := HNE.out.resolve_left hl0
       have HDR := Lh (fun W (hW : MdAt W R m) => mdrop R m ⟨pd, (k : Int), pa⟩ k d dd W hW HG.out rfl HK.out HD.out HD2.out hne HNL.out)
       obtain ⟨p0, p1, p2⟩ := row3_cells HP5.out
       clear hne
       go_wp2_with fail
       refine (HDR.out _ F5.out.md).mono ?_
       rintro e W6 ⟨rfl, R', hM, hmb⟩
       have F6 := Lh (F5.out.then hM)
       have HMB := Lh hmb
       clear hM hmb HDR F5 HP5 p0 p1 p2
       obtain ⟨_, _, _, _, _, _, _, _, _, _, _, _, _, _, _, _, _, _, _, _⟩ := row10_all F6.out.ans
       go_wp2_with fail
       refine fin10 Tryz.results44 rfl rfl F6.out.ans ?_
       · unfold OpR
         rw [HR.out]
         refine ⟨rfl, R', ?_, HMB.out⟩
         repeat (refine Mid.other ?_ F6.out.nz (by omega) _ _)
         exact F6.out.mid
   · have hk1 : (d.kind != 2) = true := by rw [bne_iff_ne]; exact hk
     have HR := Lh (show rmdirP m c = (failA 212, m) from by rw [rmdirP, HQ.out]; simp only []; rw [if_neg (by simp), Int.toNat_natCast, Md.get_look HK.out, if_pos hk])
     go_wp2_with fail
     refine (mfailed _ _).mono ?_
     rintro e W5 ⟨rfl, hb⟩
     have F5 := Lh (F4.out.below hb)
     clear hb F4
     obtain ⟨_, _, _, _, _, _, _, _, _, _, _, _, _, _, _, _, _, _, _, _⟩ := row10_all F5.out.ans
     unfold failV anV Stt.zero
     go_wp2_with fail
     refine fin10 Tryz.results44 rfl rfl F5.out.ans ?_
     · unfold OpR
       rw [HR.out]
       refine ⟨rfl, R, ?_, rfl⟩
       repeat (refine Mid.other ?_ F5.out.nz (by omega) _ _)
       exact F5.out.mid
 · have HR := Lh (show rmdirP m c = (failA z, m) from by rw [rmdirP, HQ.out]; simp only []; rw [if_pos hz])
   have hz1 : (z != 0) = true := by rw [bne_iff_ne]; exact hz
   clear hz hq hG
   have F0 := Fr.start h c 36 33
   go_enter Tryz.func44, Tryz.ntmps44
   go_upto_region 1 with fail
   generalize (w.alloc (.cells #[.int .i64 c.k, .string c.p, .string c.o, .int .i64 c.fd, .int .i64 c.n, .string c.d, .bool c.on] 36)).alloc (.cells #[.int .i64 0, .int .i64 0, .string ⟨#[]⟩, .slice none 0 0, .int .i64 0, .int .i64 0, .int .i64 0, .bool false, .slice none 0 0, .bool false] 33) = W1 at *
   have F1 := Lh F0
   clear F0
   obtain ⟨a0, a1, a2, a3, a4, a5, a6⟩ := row7_cells F1.out.call
   obtain ⟨m0, m1, m2, m3, m4⟩ := F1.out.md.cells
   go_wp2_with fail
   refine (HL.out _ F1.out.md).mono ?_
   rintro e W2 ⟨rfl, hb⟩
   have F2 := Lh (F1.out.below hb)
   have F3 := Lh (F2.out.alloc (.cells #[.int .i64 (pd : Int), .int .i64 pn, .string (tx pa)] 118))
   have HP := Lh (rowAt_alloc W2 #[.int .i64 (pd : Int), .int .i64 pn, .string (tx pa)] 118)
   have HPN := Lh (F2.out.md.fresh (Nat.le_refl W2.heap.size))
   have HPZ := F2.out.size
   clear hb F1 HL a0 a1 a2 a3 a4 a5 a6 m0 m1 m2 m3 m4
   go_upto_region 2 with fail
   generalize W2.alloc (.cells #[.int .i64 (pd : Int), .int .i64 pn, .string (tx pa)] 118) = W3 at *
   clear F2
   obtain ⟨p0, p1, p2⟩ := row3_cells HP.out
   go_wp2_with fail
   refine (mfailed _ _).mono ?_
   rintro e W3 ⟨rfl, hb⟩
   have F4 := Lh (F3.out.below hb)
   clear hb F3
   obtain ⟨_, _, _, _, _, _, _, _, _, _, _, _, _, _, _, _, _, _, _, _⟩ := row10_all F4.out.ans
   unfold failV anV Stt.zero
   go_wp2_with fail
   refine fin10 Tryz.results44 rfl rfl F4.out.ans ?_
   · unfold OpR
     rw [HR.out]
     refine ⟨rfl, R, ?_, rfl⟩
     repeat (refine Mid.other ?_ F4.out.nz (by omega) _ _)
     exact F4.out.mid
end Go.Proofs.YtppdihpobokfnaaGreatDoor
