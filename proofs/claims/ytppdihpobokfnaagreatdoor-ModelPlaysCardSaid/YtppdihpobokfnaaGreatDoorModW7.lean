/- A part of a proof. -/
import Derived.Test.YtppdihpobokfnaaGreatDoorGB
set_option linter.unusedVariables false
set_option linter.unusedSimpArgs false
set_option maxRecDepth 100000
namespace Go.Proofs.YtppdihpobokfnaaGreatDoor
open Go.RowKit Go.Joins
set_option maxHeartbeats 4000000 in
theorem mclose (R : Rp) (m : Md) (c : Cl) (w : World) (h : MdAt w R m) (hG : Good m) :
  Calls Tryz.prog 38 #[.pointer (some ⟨R.mb, 0, none⟩), .agg #[.int .i64 c.k, .string c.p, .string c.o, .int .i64 c.fd, .int .i64 c.n, .string c.d, .bool c.on]] w (OpR w R (closeP m c)) := by
 have HG := Lh hG
 obtain ⟨T', k, last, z, hq⟩ : ∃ T' k last z, tClose m.tab c.fd = (T', k, last, z) := ⟨_, _, _, _, rfl⟩
 have F0 := Fr.start h c 36 33
 go_enter Tryz.func38, Tryz.ntmps38
 go_upto_region 1 with fail
 generalize (w.alloc (.cells #[.int .i64 c.k, .string c.p, .string c.o, .int .i64 c.fd, .int .i64 c.n, .string c.d, .bool c.on] 36)).alloc (.cells #[.int .i64 0, .int .i64 0, .string ⟨#[]⟩, .slice none 0 0, .int .i64 0, .int .i64 0, .int .i64 0, .bool false, .slice none 0 0, .bool false] 33) = W1 at *
 have F1 := Lh F0
 clear F0
 obtain ⟨a0, a1, a2, a3, a4, a5, a6⟩ := row7_cells F1.out.call
 obtain ⟨m0, m1, m2, m3, m4⟩ := F1.out.md.cells
 have HC := Lh (fun W (hW : TabAt W R.tb true m.tab) => hclose R.tb m.tab c.fd W hW)
 rw [hq] at HC
 go_region_held3 (fun W => W.cell? ⟨R.mb, 4, none⟩ = some (.pointer (some ⟨R.tb, 0, none⟩)) ∧ W.cell? ⟨w.heap.size, 3, none⟩ = some (.int .i64 c.fd)) (first | (exact F1.out.drew.cellsT) | (exact F2.out.cellsT) | assumption)
  (first | (go_at_call 93; refine (HC.out _ F1.out.drew.md.tab).mono ?_; rintro e W2 ⟨rfl, ht, hg⟩; have F2 := Lh (F1.out.drew.tabbed ht hg); clear ht hg))
 clear F1 HC a0 a1 a2 a3 a4 a5 a6 m0 m1 m2 m3 m4
 by_cases hz : z = 0 ∧ last = true
 · obtain ⟨rfl, rfl⟩ := hz
   obtain ⟨s, hs, hk⟩ : ∃ s, slotOf m.tab c.fd = some s ∧ s.n = k := by
    unfold tClose at hq
    cases hs : slotOf m.tab c.fd with
    | none => rw [hs] at hq; simp at hq
    | some s => rw [hs] at hq; simp only [Prod.mk.injEq] at hq; exact ⟨s, rfl, hq.2.1⟩
   obtain ⟨_, _, kk, hkk, d, hd⟩ := HG.out.tab _ _ hs
   rw [hk] at hkk
   subst hkk
   have HR := Lh (show closeP m c = (failA 0, goneP { m with tab := T' } kk) from by rw [closeP, hq]; simp)
   have HGo := Lh (mgone R { m with tab := T' } kk d _ F2.out.md hd (HG.out.small hd))
   clear hs hk hd hq
   go_wp2_with fail
   refine HGo.out.mono ?_
   rintro e W3 ⟨rfl, R', hM, hmb⟩
   have F3 := Lh (F2.out.then hM)
   have HMB := Lh hmb
   clear hM hmb F2 HGo
   go_wp2_with fail
   refine (mfailed _ _).mono ?_
   rintro e W4 ⟨rfl, hb⟩
   have F4 := Lh (F3.out.below hb)
   clear hb F3
   obtain ⟨_, _, _, _, _, _, _, _, _, _, _, _, _, _, _, _, _, _, _, _⟩ := row10_all F4.out.ans
   unfold failV anV Stt.zero
   go_wp2_with fail
   refine fin10 Tryz.results38 rfl rfl F4.out.ans ?_
   · unfold OpR
     rw [HR.out]
     refine ⟨rfl, R', ?_, HMB.out⟩
     repeat (refine Mid.other ?_ F4.out.nz (by omega) _ _)
     exact F4.out.mid
 · have HR := Lh (show closeP m c = (failA z, { m with tab := T' }) from by rw [closeP, hq]; simp only []; rw [if_neg hz])
   by_cases hz0 : z = 0
   · subst hz0
     have hl : last = false := by cases last with
      | true => exact absurd ⟨rfl, rfl⟩ hz
      | false => rfl
     subst hl
     clear hz hq
     go_wp2_with fail
     refine (mfailed _ _).mono ?_
     rintro e W3 ⟨rfl, hb⟩
     have F3 := Lh (F2.out.below hb)
     clear hb F2
     obtain ⟨_, _, _, _, _, _, _, _, _, _, _, _, _, _, _, _, _, _, _, _⟩ := row10_all F3.out.ans
     unfold failV anV Stt.zero
     go_wp2_with fail
     refine fin10 Tryz.results38 rfl rfl F3.out.ans ?_
     · unfold OpR
       rw [HR.out]
       refine ⟨rfl, R, ?_, rfl⟩
       repeat (refine Mid.other ?_ F3.out.nz (by omega) _ _)
       exact F3.out.mid
   · have hz1 : (z == 0) = false := by rw [beq_eq_false_iff_ne]; exact hz0
     clear hz hz0 hq
     go_wp2_with fail
     refine (mfailed _ _).mono ?_
     rintro e W3 ⟨rfl, hb⟩
     have F3 := Lh (F2.out.below hb)
     clear hb F2
     obtain ⟨_, _, _, _, _, _, _, _, _, _, _, _, _, _, _, _, _, _, _, _⟩ := row10_all F3.out.ans
     unfold failV anV Stt.zero
     go_wp2_with fail
     refine fin10 Tryz.results38 rfl rfl F3.out.ans ?_
     · unfold OpR
       rw [HR.out]
       refine ⟨rfl, R, ?_, rfl⟩
       repeat (refine Mid.other ?_ F3.out.nz (by omega) _ _)
       exact F3.out.mid
set_option maxHeartbeats 4000000 in
theorem mseek (R : Rp) (m : Md) (c : Cl) (w : World) (h : MdAt w R m) (hG : Good m) :
  Calls Tryz.prog 41 #[.pointer (some ⟨R.mb, 0, none⟩), .agg #[.int .i64 c.k, .string c.p, .string c.o, .int .i64 c.fd, .int .i64 c.n, .string c.d, .bool c.on]] w (OpR w R (seekP m c)) := by
 have HC := Lh (fun W (hW : TabAt W R.tb true m.tab) => hseek R.tb m.tab c.fd c.n W hW)
 obtain ⟨T', z, hq⟩ : ∃ T' z, tSeek m.tab c.fd c.n = (T', z) := ⟨_, _, rfl⟩
 have HQ := Lh hq
 rw [hq] at HC
 clear hq hG
 have F0 := Fr.start h c 36 33
 go_enter Tryz.func41, Tryz.ntmps41
 go_upto_region 1 with fail
 generalize (w.alloc (.cells #[.int .i64 c.k, .string c.p, .string c.o, .int .i64 c.fd, .int .i64 c.n, .string c.d, .bool c.on] 36)).alloc (.cells #[.int .i64 0, .int .i64 0, .string ⟨#[]⟩, .slice none 0 0, .int .i64 0, .int .i64 0, .int .i64 0, .bool false, .slice none 0 0, .bool false] 33) = W1 at *
 have F1 := Lh F0
 clear F0
 obtain ⟨a0, a1, a2, a3, a4, a5, a6⟩ := row7_cells F1.out.call
 obtain ⟨m0, m1, m2, m3, m4⟩ := F1.out.md.cells
 go_region_held3 (fun W => W.cell? ⟨R.mb, 4, none⟩ = some (.pointer (some ⟨R.tb, 0, none⟩)) ∧ W.cell? ⟨w.heap.size, 3, none⟩ = some (.int .i64 c.fd) ∧ W.cell? ⟨w.heap.size, 4, none⟩ = some (.int .i64 c.n)) (first | (exact F1.out.drew.cellsN) | (exact F2.out.cellsN) | assumption)
  (first | (go_at_call 94; refine (HC.out _ F1.out.drew.md.tab).mono ?_; rintro e W2 ⟨rfl, ht, hg⟩; have F2 := Lh (F1.out.drew.tabbed ht hg); clear ht hg))
 clear F1 HC a0 a1 a2 a3 a4 a5 a6 m0 m1 m2 m3 m4
 by_cases hz : z = 0
 · subst hz
   have HR := Lh (show seekP m c = ({ An.zero with n := c.n }, { m with tab := T' }) from by rw [seekP, HQ.out]; rfl)
   obtain ⟨a0, a1, a2, a3, a4, a5, a6⟩ := row7_cells F2.out.call
   obtain ⟨_, _, _, _, _, _, _, _, _, _, _, _, _, _, _, _, _, _, _, _⟩ := row10_all F2.out.ans
   go_wp2_with fail
   refine fin10 Tryz.results41 rfl rfl F2.out.ans ?_
   · unfold OpR
     rw [HR.out]
     refine ⟨rfl, R, ?_, rfl⟩
     repeat (refine Mid.other ?_ F2.out.nz (by omega) _ _)
     exact F2.out.mid
 · have HR := Lh (show seekP m c = (failA z, m) from by rw [seekP, HQ.out]; simp only []; rw [if_pos hz])
   have HT := Lh (show T' = m.tab from by
    have hq := HQ.out
    unfold tSeek at hq
    cases hs : slotOf m.tab c.fd with
    | none => rw [hs] at hq; simp only [Prod.mk.injEq] at hq; exact hq.1.symm
    | some s =>
     rw [hs] at hq
     simp only [] at hq
     split at hq
     · simp only [Prod.mk.injEq] at hq; exact hq.1.symm
     · simp only [Prod.mk.injEq] at hq; exact absurd hq.2.symm hz)
   have hz1 : (z != 0) = true := by rw [bne_iff_ne]; exact hz
   have F2 : Hid (Fr w R.L c W2 R m) := by have := F2.out; rw [HT.out] at this; exact this
   clear hz HQ
   go_wp2_with fail
   refine (mfailed _ _).mono ?_
   rintro e W3 ⟨rfl, hb⟩
   have F3 := Lh (F2.out.below hb)
   clear hb F2
   obtain ⟨_, _, _, _, _, _, _, _, _, _, _, _, _, _, _, _, _, _, _, _⟩ := row10_all F3.out.ans
   unfold failV anV Stt.zero
   go_wp2_with fail
   refine fin10 Tryz.results41 rfl rfl F3.out.ans ?_
   · unfold OpR
     rw [HR.out]
     refine ⟨rfl, R, ?_, rfl⟩
     repeat (refine Mid.other ?_ F3.out.nz (by omega) _ _)
     exact F3.out.mid
set_option maxHeartbeats 4000000 in
theorem mfstat (R : Rp) (m : Md) (c : Cl) (w : World) (h : MdAt w R m) (hG : Good m) :
  Calls Tryz.prog 50 #[.pointer (some ⟨R.mb, 0, none⟩), .agg #[.int .i64 c.k, .string c.p, .string c.o, .int .i64 c.fd, .int .i64 c.n, .string c.d, .bool c.on]] w (OpR w R (fstatP m c, m)) := by
 have HG := Lh hG
 have HD := Lh (h.nodes)
 have F0 := Fr.start h c 36 33
 go_enter Tryz.func50, Tryz.ntmps50
 go_upto_region 1 with fail
 generalize (w.alloc (.cells #[.int .i64 c.k, .string c.p, .string c.o, .int .i64 c.fd, .int .i64 c.n, .string c.d, .bool c.on] 36)).alloc (.cells #[.int .i64 0, .int .i64 0, .string ⟨#[]⟩, .slice none 0 0, .int .i64 0, .int .i64 0, .int .i64 0, .bool false, .slice none 0 0, .bool false] 33) = W1 at *
 have F1 := Lh F0
 clear F0
 obtain ⟨a0, a1, a2, a3, a4, a5, a6⟩ := row7_cells F1.out.call
 obtain ⟨m0, m1, m2, m3, m4⟩ := F1.out.md.cells
 go_region_held3 (fun W => W.cell? ⟨R.mb, 4, none⟩ = some (.pointer (some ⟨R.tb, 0, none⟩)) ∧ W.cell? ⟨w.heap.size, 3, none⟩ = some (.int .i64 c.fd)) (first | (exact F1.out.drew.cellsT) | (exact F2.out.cellsT) | assumption)
  (first | (go_at_call 63; refine (hget_any R.tb m.tab c.fd _ F1.out.drew.md.tab).mono ?_; rintro e W2 ⟨rfl, hb⟩; have F2 := Lh (F1.out.drew.below hb); clear hb))
 clear F1 a0 a1 a2 a3 a4 a5 a6 m0 m1 m2 m3 m4
 cases hs : slotOf m.tab c.fd with
 | none =>
  have HR := Lh (show fstatP m c = failA 220 from by rw [fstatP, hs])
  have hg : tGet m.tab c.fd = (0, 0, 220) := by rw [tGet, hs]
  simp only [hg]
  clear hs hg HD
  go_wp2_with fail
  refine (mfailed _ _).mono ?_
  rintro e W3 ⟨rfl, hb⟩
  have F3 := Lh (F2.out.below hb)
  clear hb F2
  obtain ⟨_, _, _, _, _, _, _, _, _, _, _, _, _, _, _, _, _, _, _, _⟩ := row10_all F3.out.ans
  unfold failV anV Stt.zero
  go_wp2_with fail
  refine fin10 Tryz.results50 rfl rfl F3.out.ans ?_
  · unfold OpR
    rw [HR.out]
    refine ⟨rfl, R, ?_, rfl⟩
    repeat (refine Mid.other ?_ F3.out.nz (by omega) _ _)
    exact F3.out.mid
 | some s =>
  obtain ⟨_, _, k, hk, d, hd⟩ := HG.out.tab _ _ hs
  have HR := Lh (show fstatP m c = { An.zero with st := toldP d } from by rw [fstatP, hs]; simp only []; rw [hk, Int.toNat_natCast, Md.get_look hd])
  have hg : tGet m.tab c.fd = ((k : Int), s.a, 0) := by rw [tGet, hs]; simp only [hk]
  simp only [hg]
  have hl := F2.out.md.look hd (by have := HG.out.small hd; omega)
  have HT := Lh (mtold R m k d _ F2.out.md hd (HG.out.data k d hd) (HG.out.nlen k d hd))
  obtain ⟨m0, m1, m2, m3, m4⟩ := F2.out.md.cells
  clear hs hg HD hd hk
  go_wp2_with fail
  refine HT.out.mono ?_
  rintro e W3 ⟨rfl, hb⟩
  have F3 := Lh (F2.out.below hb)
  clear hb F2 HT hl m0 m1 m2 m3 m4
  unfold sttV
  obtain ⟨_, _, _, _, _, _, _, _, _, _, _, _, _, _, _, _, _, _, _, _⟩ := row10_all F3.out.ans
  go_wp2_with fail
  refine fin10 Tryz.results50 rfl rfl F3.out.ans ?_
  · unfold OpR
    rw [HR.out]
    refine ⟨rfl, R, ?_, rfl⟩
    repeat (refine Mid.other ?_ F3.out.nz (by omega) _ _)
    exact F3.out.mid
set_option maxHeartbeats 4000000 in
theorem mstat (R : Rp) (m : Md) (c : Cl) (w : World) (h : MdAt w R m) (hG : Good m) :
  Calls Tryz.prog 49 #[.pointer (some ⟨R.mb, 0, none⟩), .agg #[.int .i64 c.k, .string c.p, .string c.o, .int .i64 c.fd, .int .i64 c.n, .string c.d, .bool c.on]] w (OpR w R (statP m c, m)) := by
 have HG := Lh hG
 have HF := Lh (fun W (hW : MdAt W R m) => mfind R m c.p W hW hG)
 obtain ⟨k, z, hq⟩ : ∃ k z, findP m (bts c.p) = (k, z) := ⟨_, _, rfl⟩
 rw [hq] at HF
 clear hG
 have F0 := Fr.start h c 36 33
 go_enter Tryz.func49, Tryz.ntmps49
 go_upto_region 1 with fail
 generalize (w.alloc (.cells #[.int .i64 c.k, .string c.p, .string c.o, .int .i64 c.fd, .int .i64 c.n, .string c.d, .bool c.on] 36)).alloc (.cells #[.int .i64 0, .int .i64 0, .string ⟨#[]⟩, .slice none 0 0, .int .i64 0, .int .i64 0, .int .i64 0, .bool false, .slice none 0 0, .bool false] 33) = W1 at *
 have F1 := Lh F0
 clear F0
 obtain ⟨a0, a1, a2, a3, a4, a5, a6⟩ := row7_cells F1.out.call
 obtain ⟨m0, m1, m2, m3, m4⟩ := F1.out.md.cells
 by_cases hz : z = 0
 · subst hz
   obtain ⟨d, hd⟩ := findP_there HG.out (p := bts c.p) (by rw [hq])
   rw [hq] at hd
   have HR := Lh (show statP m c = { An.zero with st := toldP d } from by rw [statP, hq]; simp only []; rw [if_neg (by simp), Md.get_look hd])
   have HK := Lh hd
   clear hq hd
   go_wp2_with fail
   refine (HF.out _ F1.out.md).mono ?_
   rintro e W2 ⟨rfl, hb⟩
   have F2 := Lh (F1.out.below hb)
   clear hb F1 HF a0 a1 a2 a3 a4 a5 a6 m0 m1 m2 m3 m4
   obtain ⟨m0, m1, m2, m3, m4⟩ := F2.out.md.cells
   have hl := F2.out.md.look HK.out (by have := HG.out.small HK.out; omega)
   have HT := Lh (mtold R m k d _ F2.out.md HK.out (HG.out.data k d HK.out) (HG.out.nlen k d HK.out))
   go_wp2_with fail
   refine HT.out.mono ?_
   rintro e W3 ⟨rfl, hb⟩
   have F3 := Lh (F2.out.below hb)
   clear hb F2 HT hl m0 m1 m2 m3 m4
   unfold sttV
   obtain ⟨_, _, _, _, _, _, _, _, _, _, _, _, _, _, _, _, _, _, _, _⟩ := row10_all F3.out.ans
   go_wp2_with fail
   refine fin10 Tryz.results49 rfl rfl F3.out.ans ?_
   · unfold OpR
     rw [HR.out]
     refine ⟨rfl, R, ?_, rfl⟩
     repeat (refine Mid.other ?_ F3.out.nz (by omega) _ _)
     exact F3.out.mid
 · have HR := Lh (show statP m c = failA z from by rw [statP, hq]; simp only []; rw [if_pos hz])
   have hz1 : (z != 0) = true := by rw [bne_iff_ne]; exact hz
   clear hz hq
   go_wp2_with fail
   refine (HF.out _ F1.out.md).mono ?_
   rintro e W2 ⟨rfl, hb⟩
   have F2 := Lh (F1.out.below hb)
   clear hb F1 HF a0 a1 a2 a3 a4 a5 a6 m0 m1 m2 m3 m4
   go_wp2_with fail
   refine (mfailed _ _).mono ?_
   rintro e W3 ⟨rfl, hb⟩
   have F3 := Lh (F2.out.below hb)
   clear hb F2
   obtain ⟨_, _, _, _, _, _, _, _, _, _, _, _, _, _, _, _, _, _, _, _⟩ := row10_all F3.out.ans
   unfold failV anV Stt.zero
   go_wp2_with fail
   refine fin10 Tryz.results49 rfl rfl F3.out.ans ?_
   · unfold OpR
     rw [HR.out]
     refine ⟨rfl, R, ?_, rfl⟩
     repeat (refine Mid.other ?_ F3.out.nz (by omega) _ _)
     exact F3.out.mid
end Go.Proofs.YtppdihpobokfnaaGreatDoor
