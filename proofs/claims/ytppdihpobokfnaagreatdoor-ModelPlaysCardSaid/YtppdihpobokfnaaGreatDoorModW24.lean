/- A part of a proof. -/
import Derived.Test.YtppdihpobokfnaaGreatDoorModW23
import Derived.Test.YtppdihpobokfnaaGreatDoorGE
set_option linter.unusedVariables false
set_option linter.unusedSimpArgs false
set_option maxRecDepth 100000
namespace Go.Proofs.YtppdihpobokfnaaGreatDoor
open Go.RowKit Go.Joins
theorem missing_ok {m : Md} (h : Good m) {c : Cl} {e : Int} (he : e ≠ 0) (h0 : (missingP m c e).2 = 0) : Dir m (missingP m c e).1.dir ∧ (missingP m c e).1.name.length ≤ 32 := by
 unfold missingP at h0 ⊢
 by_cases h1 : e ≠ 210 ∨ c.n % 2 = 0
 · rw [if_pos h1] at h0; exact absurd h0 he
 · rw [if_neg h1] at h0 ⊢
   by_cases h2 : (locateP m (bts c.p)).2 ≠ 0
   · rw [if_pos h2] at h0; exact absurd h0 he
   · rw [if_neg h2]
     obtain ⟨dd, h3, h4, h5, _⟩ := locateP_ok h (p := bts c.p) (by omega)
     exact ⟨⟨dd, h3, h4⟩, h5⟩
theorem openAt_eq {m : Md} {c : Cl} {k : Nat} {d : Nd} (hk : lookK m.nodes k = some d) : openAt m c k = if d.kind = 2 then (failA 213, m) else if c.n / 4 = 1 then ({ An.zero with e := (tOpen m.tab k).2.2, n := (tOpen m.tab k).2.1 }, { (m.set k fun n => { n with data := [] }) with tab := (tOpen m.tab k).1 }) else ({ An.zero with e := (tOpen m.tab k).2.2, n := (tOpen m.tab k).2.1 }, { m with tab := (tOpen m.tab k).1 }) := by
 rw [openAt, Md.get_look hk]
 by_cases h1 : d.kind = 2
 · rw [if_pos h1, if_pos h1]
 · rw [if_neg h1, if_neg h1]
   by_cases h2 : c.n / 4 = 1
   · simp only [if_pos h2]; rfl
   · simp only [if_neg h2]
set_option maxHeartbeats 4000000 in
theorem mopen (R : Rp) (m : Md) (c : Cl) (w : World) (h : MdAt w R m) (hG : Good m) :
  Calls Tryz.prog 37 #[.pointer (some ⟨R.mb, 0, none⟩), .agg #[.int .i64 c.k, .string c.p, .string c.o, .int .i64 c.fd, .int .i64 c.n, .string c.d, .bool c.on]] w (OpR w R (openP m c)) := by
 have HG := Lh hG
 obtain ⟨l, z, hl⟩ := split_list c.p
 by_cases hn : 0 ≤ c.n ∧ c.n ≤ 7
 · have HN := Lh hn
   obtain ⟨hn0, hn1⟩ := hn
   have hno : ¬ (c.n < 0 ∨ 7 < c.n) := by omega
   have HSP := Lh (fun W => csplit_is hl W)
   by_cases hz : z = 0
   · subst hz
     have HP := Lh (split_parts hl)
     have HL := Lh (split_short hl)
     have HR2 := Lh (show openP m c = if tFull m.tab = true then (failA 221, m) else if (walkFrom m 0 (l.map bts)).2 ≠ 0 then (if (missingP m c (walkFrom m 0 (l.map bts)).2).2 ≠ 0 then (failA (missingP m c (walkFrom m 0 (l.map bts)).2).2, m) else if (freshP m (missingP m c (walkFrom m 0 (l.map bts)).2).1 1).1.2 ≠ 0 then (failA (freshP m (missingP m c (walkFrom m 0 (l.map bts)).2).1 1).1.2, m) else openAt (freshP m (missingP m c (walkFrom m 0 (l.map bts)).2).1 1).2 c (freshP m (missingP m c (walkFrom m 0 (l.map bts)).2).1 1).1.1) else if c.n % 2 = 1 ∧ c.n / 2 % 2 = 1 then (failA 211, m) else openAt m c (walkFrom m 0 (l.map bts)).1 from by rw [openP, if_neg hno, hl]; simp only []; rw [if_neg (by simp)])
     clear hl hno
     have F0 := Fr.start h c 36 33
     go_enter Tryz.func37, Tryz.ntmps37
     go_upto_region 1 with fail
     generalize (w.alloc (.cells #[.int .i64 c.k, .string c.p, .string c.o, .int .i64 c.fd, .int .i64 c.n, .string c.d, .bool c.on] 36)).alloc (.cells #[.int .i64 0, .int .i64 0, .string ⟨#[]⟩, .slice none 0 0, .int .i64 0, .int .i64 0, .int .i64 0, .bool false, .slice none 0 0, .bool false] 33) = W1 at *
     have F1 := Lh F0
     clear F0
     obtain ⟨a0, a1, a2, a3, a4, a5, a6⟩ := row7_cells F1.out.call
     obtain ⟨m0, m1, m2, m3, m4⟩ := F1.out.md.cells
     go_wp2_with fail
     refine (HSP.out _).mono ?_
     rintro e W2 ⟨⟨a, cap, rfl, g1, g2, hnew⟩, hb⟩
     have F2 := Lh (F1.out.below hb)
     have HV2 := Lh hnew.vals
     clear hb hnew HSP F1 g1 g2 a0 a1 a2 a3 a4 a5 a6 m0 m1 m2 m3 m4
     obtain ⟨m0, m1, m2, m3, m4⟩ := F2.out.md.cells
     have HFU := Lh (hfull R.tb m.tab _ F2.out.md.tab)
     obtain ⟨fl, hfl⟩ : ∃ x, x = tFull m.tab := ⟨_, rfl⟩
     rw [← hfl] at HFU HR2
     clear hfl
     go_wp2_with fail
     refine HFU.out.mono ?_
     rintro e W3 ⟨rfl, hb⟩
     have F3 := Lh (F2.out.below hb)
     have HV3 := Lh (HV2.out.below hb (Nat.le_refl _))
     clear hb F2 HV2 HFU m0 m1 m2 m3 m4
     cases fl with
     | true =>
      have HR := Lh (show openP m c = (failA 221, m) from by rw [HR2.out, if_pos rfl])
      go_wp2_with fail
      refine (mfailed _ _).mono ?_
      rintro e W4 ⟨rfl, hb⟩
      have F4 := Lh (F3.out.below hb)
      clear hb F3
      obtain ⟨_, _, _, _, _, _, _, _, _, _, _, _, _, _, _, _, _, _, _, _⟩ := row10_all F4.out.ans
      unfold failV anV Stt.zero
      go_wp2_with fail
      refine fin10 Tryz.results37 rfl rfl F4.out.ans ?_
      · unfold OpR
        rw [HR.out]
        refine ⟨rfl, R, ?_, rfl⟩
        repeat (refine Mid.other ?_ F4.out.nz (by omega) _ _)
        exact F4.out.mid
     | false =>
      have HW := Lh (mwalk R m a cap l W3 F3.out.md HG.out HV3.out (by have := HL.out; omega) (fun x hx => by have := HP.out x hx; omega))
      obtain ⟨k, y, hw⟩ : ∃ k y, walkFrom m 0 (l.map bts) = (k, y) := ⟨_, _, rfl⟩
      have hrw := HR2.out
      rw [if_neg (by simp), hw] at hrw
      rw [hw] at HW
      have HRW := Lh hrw
      have HWF := Lh hw
      clear hw HR2 hrw
      go_wp2_with fail
      refine HW.out.mono ?_
      rintro e W4 ⟨rfl, rfl⟩
      clear HW HV3
      by_cases hy : y = 0
      · subst hy
        obtain ⟨d, hd⟩ := walkFrom_there HG.out HG.out.root.there (ps := l.map bts) (by rw [HWF.out])
        rw [HWF.out] at hd
        have HK := Lh (show lookK m.nodes k = some d from hd)
        have HS := Lh (HG.out.small HK.out)
        clear hd
        obtain ⟨a0, a1, a2, a3, a4, a5, a6⟩ := row7_cells F3.out.call
        have hb1 := and1 HN.out
        have hb2 := and2 HN.out
        by_cases hc : c.n % 2 = 1
        · rw [hc] at hb1
          by_cases hc2 : c.n / 2 % 2 = 1
          · have HR := Lh (show openP m c = (failA 211, m) from by rw [HRW.out]; rw [if_neg (by simp), if_pos ⟨hc, hc2⟩])
            rw [hc2] at hb2
            clear hc hc2
            go_wp2_with fail
            refine (mfailed _ _).mono ?_
            rintro e W5 ⟨rfl, hb⟩
            have F4 := Lh (F3.out.below hb)
            clear hb F3
            obtain ⟨_, _, _, _, _, _, _, _, _, _, _, _, _, _, _, _, _, _, _, _⟩ := row10_all F4.out.ans
            unfold failV anV Stt.zero
            go_wp2_with fail
            refine fin10 Tryz.results37 rfl rfl F4.out.ans ?_
            · unfold OpR
              rw [HR.out]
              refine ⟨rfl, R, ?_, rfl⟩
              repeat (refine Mid.other ?_ F4.out.nz (by omega) _ _)
              exact F4.out.mid
          · have HR0 := Lh (show openP m c = openAt m c k from by rw [HRW.out]; rw [if_neg (by simp), if_neg (fun h => hc2 h.2)])
            rw [show c.n / 2 % 2 = 0 from by omega] at hb2
            clear hc hc2 HRW
            go_upto_region 18 with fail
            clear a0 a1 a2 a3 a4 a5 a6 hb1 hb2
            have hr := HR0.out
            rw [openAt_eq HK.out] at hr
            have HR1 := Lh hr
            clear HR0 hr
            obtain ⟨m0, m1, m2, m3, m4⟩ := F3.out.md.cells
            skip
            have hl := F3.out.md.look HK.out (by have := HS.out; omega)
            obtain ⟨e0, e1, e2, e3, e4, e5⟩ := (F3.out.md.nodes _ _ HK.out).cells
            obtain ⟨a0, a1, a2, a3, a4, a5, a6⟩ := row7_cells F3.out.call
            have hb4 := and4 HN.out
            by_cases hk : d.kind = 2
            · have HR := Lh (show openP m c = (failA 213, m) from by rw [HR1.out, if_pos hk])
              have hk1 : (d.kind == 2) = true := by rw [beq_iff_eq]; exact hk
              clear hk
              go_wp2_with fail
              refine (mfailed _ _).mono ?_
              rintro e W9 ⟨rfl, hb⟩
              have F9 := Lh (F3.out.below hb)
              clear hb F3
              obtain ⟨_, _, _, _, _, _, _, _, _, _, _, _, _, _, _, _, _, _, _, _⟩ := row10_all F9.out.ans
              unfold failV anV Stt.zero
              go_wp2_with fail
              refine fin10 Tryz.results37 rfl rfl F9.out.ans ?_
              · unfold OpR
                rw [HR.out]
                refine ⟨rfl, R, ?_, rfl⟩
                repeat (refine Mid.other ?_ F9.out.nz (by omega) _ _)
                exact F9.out.mid
            · have hk1 : (d.kind == 2) = false := by rw [beq_eq_false_iff_ne]; exact hk
              by_cases hc : c.n / 4 = 1
              · rw [hc] at hb4
                have hr := HR1.out
                rw [if_neg hk, if_pos hc] at hr
                have HR := Lh hr
                clear hr
                clear hk hc
                have e6 := (F3.out.md.nodes _ _ HK.out).free (i := 3) (by omega)
                have F8 := Lh (F3.out.then (Mid.bytes (f := fun n => { n with data := [] }) F3.out.md HK.out (bs := []) (v := nilS) rfl (ownB_nil _ _) (World.grownBy.refl _ _) (fun b hb => by cases hb)))
                go_upto_region 23 with fail
                generalize W3.setCell ⟨R.g k, 3, none⟩ nilS = W8 at *
                clear e0 e1 e2 e3 e4 e5 e6 hl m0 m1 m2 m3 m4 a0 a1 a2 a3 a4 a5 a6 F3 hb4
                obtain ⟨m0, m1, m2, m3, m4⟩ := F8.out.md.cells
                skip
                have HO := Lh (hopen R.tb m.tab (k : Int) W8 (show TabAt W8 R.tb true m.tab from F8.out.md.tab))
                have m4 : W8.cell? ⟨R.mb, 4, none⟩ = some (.pointer (some ⟨R.tb, 0, none⟩)) := m4
                skip
                obtain ⟨T9, fdd, zz9, hq9⟩ : ∃ T' a b, tOpen m.tab (k : Int) = (T', a, b) := ⟨_, _, _, rfl⟩
                have hr := HR.out
                rw [hq9] at HO hr
                have HR := Lh hr
                clear hr
                clear hq9
                go_wp2_with fail
                refine HO.out.mono ?_
                rintro e W9 ⟨rfl, ht, hg⟩
                have F9 := Lh (F8.out.tabbed ht hg)
                clear ht hg HO F8 m0 m1 m2 m3 m4
                obtain ⟨_, _, _, _, _, _, _, _, _, _, _, _, _, _, _, _, _, _, _, _⟩ := row10_all F9.out.ans
                go_wp2_with fail
                refine fin10 Tryz.results37 rfl rfl F9.out.ans ?_
                · unfold OpR
                  rw [HR.out]
                  refine ⟨rfl, (R.withD k nilS), ?_, rfl⟩
                  repeat (refine Mid.other ?_ F9.out.nz (by omega) _ _)
                  exact F9.out.mid
              · rw [show c.n / 4 = 0 from by have := HN.out; omega] at hb4
                have hr := HR1.out
                rw [if_neg hk, if_neg hc] at hr
                have HR := Lh hr
                clear hr
                clear hk hc
                go_upto_region 23 with fail
                clear e0 e1 e2 e3 e4 e5 hl m0 m1 m2 m3 m4 a0 a1 a2 a3 a4 a5 a6 hb4
                obtain ⟨m0, m1, m2, m3, m4⟩ := F3.out.md.cells
                skip
                have HO := Lh (hopen R.tb m.tab (k : Int) W3 (show TabAt W3 R.tb true m.tab from F3.out.md.tab))
                have m4 : W3.cell? ⟨R.mb, 4, none⟩ = some (.pointer (some ⟨R.tb, 0, none⟩)) := m4
                skip
                obtain ⟨T9, fdd, zz9, hq9⟩ : ∃ T' a b, tOpen m.tab (k : Int) = (T', a, b) := ⟨_, _, _, rfl⟩
                have hr := HR.out
                rw [hq9] at HO hr
                have HR := Lh hr
                clear hr
                clear hq9
                go_wp2_with fail
                refine HO.out.mono ?_
                rintro e W9 ⟨rfl, ht, hg⟩
                have F9 := Lh (F3.out.tabbed ht hg)
                clear ht hg HO F3 m0 m1 m2 m3 m4
                obtain ⟨_, _, _, _, _, _, _, _, _, _, _, _, _, _, _, _, _, _, _, _⟩ := row10_all F9.out.ans
                go_wp2_with fail
                refine fin10 Tryz.results37 rfl rfl F9.out.ans ?_
                · unfold OpR
                  rw [HR.out]
                  refine ⟨rfl, R, ?_, rfl⟩
                  repeat (refine Mid.other ?_ F9.out.nz (by omega) _ _)
                  exact F9.out.mid
        · have HR0 := Lh (show openP m c = openAt m c k from by rw [HRW.out]; rw [if_neg (by simp), if_neg (fun h => hc h.1)])
          rw [show c.n % 2 = 0 from by omega] at hb1
          clear hc HRW hb2
          go_upto_region 18 with fail
          clear a0 a1 a2 a3 a4 a5 a6 hb1
          have hr := HR0.out
          rw [openAt_eq HK.out] at hr
          have HR1 := Lh hr
          clear HR0 hr
          obtain ⟨m0, m1, m2, m3, m4⟩ := F3.out.md.cells
          skip
          have hl := F3.out.md.look HK.out (by have := HS.out; omega)
          obtain ⟨e0, e1, e2, e3, e4, e5⟩ := (F3.out.md.nodes _ _ HK.out).cells
          obtain ⟨a0, a1, a2, a3, a4, a5, a6⟩ := row7_cells F3.out.call
          have hb4 := and4 HN.out
          by_cases hk : d.kind = 2
          · have HR := Lh (show openP m c = (failA 213, m) from by rw [HR1.out, if_pos hk])
            have hk1 : (d.kind == 2) = true := by rw [beq_iff_eq]; exact hk
            clear hk
            go_wp2_with fail
            refine (mfailed _ _).mono ?_
            rintro e W9 ⟨rfl, hb⟩
            have F9 := Lh (F3.out.below hb)
            clear hb F3
            obtain ⟨_, _, _, _, _, _, _, _, _, _, _, _, _, _, _, _, _, _, _, _⟩ := row10_all F9.out.ans
            unfold failV anV Stt.zero
            go_wp2_with fail
            refine fin10 Tryz.results37 rfl rfl F9.out.ans ?_
            · unfold OpR
              rw [HR.out]
              refine ⟨rfl, R, ?_, rfl⟩
              repeat (refine Mid.other ?_ F9.out.nz (by omega) _ _)
              exact F9.out.mid
          · have hk1 : (d.kind == 2) = false := by rw [beq_eq_false_iff_ne]; exact hk
            by_cases hc : c.n / 4 = 1
            · rw [hc] at hb4
              have hr := HR1.out
              rw [if_neg hk, if_pos hc] at hr
              have HR := Lh hr
              clear hr
              clear hk hc
              have e6 := (F3.out.md.nodes _ _ HK.out).free (i := 3) (by omega)
              have F8 := Lh (F3.out.then (Mid.bytes (f := fun n => { n with data := [] }) F3.out.md HK.out (bs := []) (v := nilS) rfl (ownB_nil _ _) (World.grownBy.refl _ _) (fun b hb => by cases hb)))
              go_upto_region 23 with fail
              generalize W3.setCell ⟨R.g k, 3, none⟩ nilS = W8 at *
              clear e0 e1 e2 e3 e4 e5 e6 hl m0 m1 m2 m3 m4 a0 a1 a2 a3 a4 a5 a6 F3 hb4
              obtain ⟨m0, m1, m2, m3, m4⟩ := F8.out.md.cells
              skip
              have HO := Lh (hopen R.tb m.tab (k : Int) W8 (show TabAt W8 R.tb true m.tab from F8.out.md.tab))
              have m4 : W8.cell? ⟨R.mb, 4, none⟩ = some (.pointer (some ⟨R.tb, 0, none⟩)) := m4
              skip
              obtain ⟨T9, fdd, zz9, hq9⟩ : ∃ T' a b, tOpen m.tab (k : Int) = (T', a, b) := ⟨_, _, _, rfl⟩
              have hr := HR.out
              rw [hq9] at HO hr
              have HR := Lh hr
              clear hr
              clear hq9
              go_wp2_with fail
              refine HO.out.mono ?_
              rintro e W9 ⟨rfl, ht, hg⟩
              have F9 := Lh (F8.out.tabbed ht hg)
              clear ht hg HO F8 m0 m1 m2 m3 m4
              obtain ⟨_, _, _, _, _, _, _, _, _, _, _, _, _, _, _, _, _, _, _, _⟩ := row10_all F9.out.ans
              go_wp2_with fail
              refine fin10 Tryz.results37 rfl rfl F9.out.ans ?_
              · unfold OpR
                rw [HR.out]
                refine ⟨rfl, (R.withD k nilS), ?_, rfl⟩
                repeat (refine Mid.other ?_ F9.out.nz (by omega) _ _)
                exact F9.out.mid
            · rw [show c.n / 4 = 0 from by have := HN.out; omega] at hb4
              have hr := HR1.out
              rw [if_neg hk, if_neg hc] at hr
              have HR := Lh hr
              clear hr
              clear hk hc
              go_upto_region 23 with fail
              clear e0 e1 e2 e3 e4 e5 hl m0 m1 m2 m3 m4 a0 a1 a2 a3 a4 a5 a6 hb4
              obtain ⟨m0, m1, m2, m3, m4⟩ := F3.out.md.cells
              skip
              have HO := Lh (hopen R.tb m.tab (k : Int) W3 (show TabAt W3 R.tb true m.tab from F3.out.md.tab))
              have m4 : W3.cell? ⟨R.mb, 4, none⟩ = some (.pointer (some ⟨R.tb, 0, none⟩)) := m4
              skip
              obtain ⟨T9, fdd, zz9, hq9⟩ : ∃ T' a b, tOpen m.tab (k : Int) = (T', a, b) := ⟨_, _, _, rfl⟩
              have hr := HR.out
              rw [hq9] at HO hr
              have HR := Lh hr
              clear hr
              clear hq9
              go_wp2_with fail
              refine HO.out.mono ?_
              rintro e W9 ⟨rfl, ht, hg⟩
              have F9 := Lh (F3.out.tabbed ht hg)
              clear ht hg HO F3 m0 m1 m2 m3 m4
              obtain ⟨_, _, _, _, _, _, _, _, _, _, _, _, _, _, _, _, _, _, _, _⟩ := row10_all F9.out.ans
              go_wp2_with fail
              refine fin10 Tryz.results37 rfl rfl F9.out.ans ?_
              · unfold OpR
                rw [HR.out]
                refine ⟨rfl, R, ?_, rfl⟩
                repeat (refine Mid.other ?_ F9.out.nz (by omega) _ _)
                exact F9.out.mid
      · have hy1 : (y != 0) = true := by rw [bne_iff_ne]; exact hy
        have hrm := HRW.out
        try simp only [] at hrm
        rw [if_pos hy] at hrm
        have HMO := Lh (fun h0 => missing_ok HG.out (c := c) hy h0)
        have HMI := Lh (mmissing R m c y W3 F3.out.md HG.out HN.out)
        obtain ⟨p, f, hm⟩ : ∃ p f, missingP m c y = (p, f) := ⟨_, _, rfl⟩
        rw [hm] at hrm HMI HMO
        unfold plV at HMI
        have HRM := Lh hrm
        clear hrm
        obtain ⟨a0, a1, a2, a3, a4, a5, a6⟩ := row7_cells F3.out.call
        clear hm HRW hy
        go_wp2_with fail
        refine HMI.out.mono ?_
        rintro e W5 ⟨rfl, hb⟩
        have F5 := Lh (F3.out.below hb)
        have F6 := Lh (F5.out.alloc (.cells #[.int .i64 (p.dir : Int), .int .i64 p.node, .string (tx p.name)] 118))
        have HPB := Lh (rowAt_alloc W5 #[.int .i64 (p.dir : Int), .int .i64 p.node, .string (tx p.name)] 118)
        clear hb HMI F3 a0 a1 a2 a3 a4 a5 a6
        go_upto_region 11 with fail
        generalize W5.alloc (.cells #[.int .i64 (p.dir : Int), .int .i64 p.node, .string (tx p.name)] 118) = W6 at *
        clear F5
        obtain ⟨p0, p1, p2⟩ := row3_cells HPB.out
        by_cases hf : f = 0
        · subst hf
          have HDR := Lh (HMO.out rfl)
          obtain ⟨fr, hfr⟩ : ∃ x, x = freshP m p 1 := ⟨_, rfl⟩
          have HFR := Lh (fun W (hW : MdAt W R m) => mfresh R m p 1 W hW HG.out HDR.out.1 (.inl rfl) (by have h9 : p.name.length ≤ 32 := HDR.out.2; omega))
          have hrf := HRM.out
          try simp only [] at hrf
          rw [if_neg (by simp), ← hfr] at hrf
          rw [← hfr] at HFR
          have HRF := Lh hrf
          clear hrf
          have HFE := Lh hfr
          clear hfr HRM HMO
          go_wp2_with fail
          refine (HFR.out _ F6.out.md).mono ?_
          rintro e W7 ⟨rfl, R', hM, hmb⟩
          have F7 := Lh (F6.out.then hM)
          have HMB := Lh hmb
          clear hM hmb HFR F6 p0 p1 p2 HPB
          by_cases hfe : fr.1.2 = 0
          · obtain ⟨k9, hk9⟩ : ∃ x, x = fr.1.1 := ⟨_, rfl⟩
            have HK := Lh (show lookK fr.2.nodes fr.1.1 = some (freshN 1 p.dir) from by rw [HFE.out]; exact freshP_new HG.out HDR.out.1.there (by rw [← HFE.out]; exact hfe))
            have HS := Lh (show fr.1.1 ≤ 1000000 from by rw [HFE.out]; unfold freshP; split <;> simp <;> exact HG.out.next)
            have HR0 := Lh (show openP m c = openAt fr.2 c fr.1.1 from by rw [HRF.out, if_neg (by rw [hfe]; simp)])
            rw [hfe]
            clear hfe hk9 HRF
            obtain ⟨d, hdd⟩ : ∃ x, x = freshN 1 p.dir := ⟨_, rfl⟩
            rw [← hdd] at HK
            clear hdd
            obtain ⟨k, hkk⟩ : ∃ x, x = fr.1.1 := ⟨_, rfl⟩
            obtain ⟨mm, hmm⟩ : ∃ x, x = fr.2 := ⟨_, rfl⟩
            rw [← hkk] at HK HS HR0 ⊢
            rw [← hmm] at HK HR0 F7
            clear hkk hmm HFE
            go_upto_region 18 with fail
            have hr := HR0.out
            rw [openAt_eq HK.out] at hr
            have HR1 := Lh hr
            clear HR0 hr
            obtain ⟨m0, m1, m2, m3, m4⟩ := F7.out.md.cells
            rw [HMB.out] at m0 m1 m2 m3 m4
            have hl := F7.out.md.look HK.out (by have := HS.out; omega)
            obtain ⟨e0, e1, e2, e3, e4, e5⟩ := (F7.out.md.nodes _ _ HK.out).cells
            obtain ⟨a0, a1, a2, a3, a4, a5, a6⟩ := row7_cells F7.out.call
            have hb4 := and4 HN.out
            by_cases hk : d.kind = 2
            · have HR := Lh (show openP m c = (failA 213, mm) from by rw [HR1.out, if_pos hk])
              have hk1 : (d.kind == 2) = true := by rw [beq_iff_eq]; exact hk
              clear hk
              go_wp2_with fail
              refine (mfailed _ _).mono ?_
              rintro e W9 ⟨rfl, hb⟩
              have F9 := Lh (F7.out.below hb)
              clear hb F7
              obtain ⟨_, _, _, _, _, _, _, _, _, _, _, _, _, _, _, _, _, _, _, _⟩ := row10_all F9.out.ans
              unfold failV anV Stt.zero
              go_wp2_with fail
              refine fin10 Tryz.results37 rfl rfl F9.out.ans ?_
              · unfold OpR
                rw [HR.out]
                refine ⟨rfl, R', ?_, HMB.out⟩
                repeat (refine Mid.other ?_ F9.out.nz (by omega) _ _)
                exact F9.out.mid
            · have hk1 : (d.kind == 2) = false := by rw [beq_eq_false_iff_ne]; exact hk
              by_cases hc : c.n / 4 = 1
              · rw [hc] at hb4
                have hr := HR1.out
                rw [if_neg hk, if_pos hc] at hr
                have HR := Lh hr
                clear hr
                clear hk hc
                have e6 := (F7.out.md.nodes _ _ HK.out).free (i := 3) (by omega)
                have F8 := Lh (F7.out.then (Mid.bytes (f := fun n => { n with data := [] }) F7.out.md HK.out (bs := []) (v := nilS) rfl (ownB_nil _ _) (World.grownBy.refl _ _) (fun b hb => by cases hb)))
                go_upto_region 23 with fail
                generalize W7.setCell ⟨R'.g k, 3, none⟩ nilS = W8 at *
                clear e0 e1 e2 e3 e4 e5 e6 hl m0 m1 m2 m3 m4 a0 a1 a2 a3 a4 a5 a6 F7 hb4
                obtain ⟨m0, m1, m2, m3, m4⟩ := F8.out.md.cells
                skip
                have HO := Lh (hopen R'.tb mm.tab (k : Int) W8 (show TabAt W8 R'.tb true mm.tab from F8.out.md.tab))
                have m4 : W8.cell? ⟨R'.mb, 4, none⟩ = some (.pointer (some ⟨R'.tb, 0, none⟩)) := m4
                rw [HMB.out] at m4
                obtain ⟨T9, fdd, zz9, hq9⟩ : ∃ T' a b, tOpen mm.tab (k : Int) = (T', a, b) := ⟨_, _, _, rfl⟩
                have hr := HR.out
                rw [hq9] at HO hr
                have HR := Lh hr
                clear hr
                clear hq9
                go_wp2_with fail
                refine HO.out.mono ?_
                rintro e W9 ⟨rfl, ht, hg⟩
                have F9 := Lh (F8.out.tabbed ht hg)
                clear ht hg HO F8 m0 m1 m2 m3 m4
                obtain ⟨_, _, _, _, _, _, _, _, _, _, _, _, _, _, _, _, _, _, _, _⟩ := row10_all F9.out.ans
                go_wp2_with fail
                refine fin10 Tryz.results37 rfl rfl F9.out.ans ?_
                · unfold OpR
                  rw [HR.out]
                  refine ⟨rfl, (R'.withD k nilS), ?_, HMB.out⟩
                  repeat (refine Mid.other ?_ F9.out.nz (by omega) _ _)
                  exact F9.out.mid
              · rw [show c.n / 4 = 0 from by have := HN.out; omega] at hb4
                have hr := HR1.out
                rw [if_neg hk, if_neg hc] at hr
                have HR := Lh hr
                clear hr
                clear hk hc
                go_upto_region 23 with fail
                clear e0 e1 e2 e3 e4 e5 hl m0 m1 m2 m3 m4 a0 a1 a2 a3 a4 a5 a6 hb4
                obtain ⟨m0, m1, m2, m3, m4⟩ := F7.out.md.cells
                skip
                have HO := Lh (hopen R'.tb mm.tab (k : Int) W7 (show TabAt W7 R'.tb true mm.tab from F7.out.md.tab))
                have m4 : W7.cell? ⟨R'.mb, 4, none⟩ = some (.pointer (some ⟨R'.tb, 0, none⟩)) := m4
                rw [HMB.out] at m4
                obtain ⟨T9, fdd, zz9, hq9⟩ : ∃ T' a b, tOpen mm.tab (k : Int) = (T', a, b) := ⟨_, _, _, rfl⟩
                have hr := HR.out
                rw [hq9] at HO hr
                have HR := Lh hr
                clear hr
                clear hq9
                go_wp2_with fail
                refine HO.out.mono ?_
                rintro e W9 ⟨rfl, ht, hg⟩
                have F9 := Lh (F7.out.tabbed ht hg)
                clear ht hg HO F7 m0 m1 m2 m3 m4
                obtain ⟨_, _, _, _, _, _, _, _, _, _, _, _, _, _, _, _, _, _, _, _⟩ := row10_all F9.out.ans
                go_wp2_with fail
                refine fin10 Tryz.results37 rfl rfl F9.out.ans ?_
                · unfold OpR
                  rw [HR.out]
                  refine ⟨rfl, R', ?_, HMB.out⟩
                  repeat (refine Mid.other ?_ F9.out.nz (by omega) _ _)
                  exact F9.out.mid
          · have HR := Lh (show openP m c = (failA fr.1.2, m) from by rw [HRF.out, if_pos hfe])
            have hfm : fr.2 = m := by rw [HFE.out]; exact freshP_err (by rw [← HFE.out]; exact hfe)
            have F7 : Hid (Fr w R.L c W7 R' m) := by have h9 := F7.out; rw [hfm] at h9; exact h9
            have hfe1 : (fr.1.2 != 0) = true := by rw [bne_iff_ne]; exact hfe
            clear hfe hfm
            go_wp2_with fail
            refine (mfailed _ _).mono ?_
            rintro e W8 ⟨rfl, hb⟩
            have F8 := Lh (F7.out.below hb)
            clear hb F7
            obtain ⟨_, _, _, _, _, _, _, _, _, _, _, _, _, _, _, _, _, _, _, _⟩ := row10_all F8.out.ans
            unfold failV anV Stt.zero
            go_wp2_with fail
            refine fin10 Tryz.results37 rfl rfl F8.out.ans ?_
            · unfold OpR
              rw [HR.out]
              refine ⟨rfl, R', ?_, HMB.out⟩
              repeat (refine Mid.other ?_ F8.out.nz (by omega) _ _)
              exact F8.out.mid
        · have HR := Lh (show openP m c = (failA f, m) from by rw [HRM.out]; rw [if_pos hf])
          have hf1 : (f != 0) = true := by rw [bne_iff_ne]; exact hf
          clear hf
          go_wp2_with fail
          refine (mfailed _ _).mono ?_
          rintro e W7 ⟨rfl, hb⟩
          have F7 := Lh (F6.out.below hb)
          clear hb F6
          obtain ⟨_, _, _, _, _, _, _, _, _, _, _, _, _, _, _, _, _, _, _, _⟩ := row10_all F7.out.ans
          unfold failV anV Stt.zero
          go_wp2_with fail
          refine fin10 Tryz.results37 rfl rfl F7.out.ans ?_
          · unfold OpR
            rw [HR.out]
            refine ⟨rfl, R, ?_, rfl⟩
            repeat (refine Mid.other ?_ F7.out.nz (by omega) _ _)
            exact F7.out.mid
   · have HR := Lh (show openP m c = (failA z, m) from by rw [openP, if_neg hno, hl]; simp only []; rw [if_pos hz])
     have hz1 : (z != 0) = true := by rw [bne_iff_ne]; exact hz
     clear hl hz hno
     have F0 := Fr.start h c 36 33
     go_enter Tryz.func37, Tryz.ntmps37
     go_upto_region 1 with fail
     generalize (w.alloc (.cells #[.int .i64 c.k, .string c.p, .string c.o, .int .i64 c.fd, .int .i64 c.n, .string c.d, .bool c.on] 36)).alloc (.cells #[.int .i64 0, .int .i64 0, .string ⟨#[]⟩, .slice none 0 0, .int .i64 0, .int .i64 0, .int .i64 0, .bool false, .slice none 0 0, .bool false] 33) = W1 at *
     have F1 := Lh F0
     clear F0
     obtain ⟨a0, a1, a2, a3, a4, a5, a6⟩ := row7_cells F1.out.call
     obtain ⟨m0, m1, m2, m3, m4⟩ := F1.out.md.cells
     go_wp2_with fail
     refine (HSP.out _).mono ?_
     rintro e W2 ⟨⟨a, cap, rfl, g1, g2, hnew⟩, hb⟩
     have F2 := Lh (F1.out.below hb)
     clear hb hnew HSP F1 g1 g2 a0 a1 a2 a3 a4 a5 a6 m0 m1 m2 m3 m4
     go_wp2_with fail
     refine (mfailed _ _).mono ?_
     rintro e W3 ⟨rfl, hb⟩
     have F3 := Lh (F2.out.below hb)
     clear hb F2
     obtain ⟨_, _, _, _, _, _, _, _, _, _, _, _, _, _, _, _, _, _, _, _⟩ := row10_all F3.out.ans
     unfold failV anV Stt.zero
     go_wp2_with fail
     refine fin10 Tryz.results37 rfl rfl F3.out.ans ?_
     · unfold OpR
       rw [HR.out]
       refine ⟨rfl, R, ?_, rfl⟩
       repeat (refine Mid.other ?_ F3.out.nz (by omega) _ _)
       exact F3.out.mid
 · have HR := Lh (show openP m c = (failA 216, m) from by rw [openP, if_pos (by omega)])
   clear hl
   by_cases hn0 : 0 ≤ c.n
   · have hn1 : ¬ c.n ≤ 7 := fun h => hn ⟨hn0, h⟩
     clear hn
     have F0 := Fr.start h c 36 33
     go_enter Tryz.func37, Tryz.ntmps37
     go_upto_region 1 with fail
     generalize (w.alloc (.cells #[.int .i64 c.k, .string c.p, .string c.o, .int .i64 c.fd, .int .i64 c.n, .string c.d, .bool c.on] 36)).alloc (.cells #[.int .i64 0, .int .i64 0, .string ⟨#[]⟩, .slice none 0 0, .int .i64 0, .int .i64 0, .int .i64 0, .bool false, .slice none 0 0, .bool false] 33) = W1 at *
     have F1 := Lh F0
     clear F0
     obtain ⟨a0, a1, a2, a3, a4, a5, a6⟩ := row7_cells F1.out.call
     obtain ⟨m0, m1, m2, m3, m4⟩ := F1.out.md.cells
     go_wp2_with fail
     refine (mfailed _ _).mono ?_
     rintro e W2 ⟨rfl, hb⟩
     have F2 := Lh (F1.out.below hb)
     clear hb F1
     obtain ⟨_, _, _, _, _, _, _, _, _, _, _, _, _, _, _, _, _, _, _, _⟩ := row10_all F2.out.ans
     unfold failV anV Stt.zero
     go_wp2_with fail
     refine fin10 Tryz.results37 rfl rfl F2.out.ans ?_
     · unfold OpR
       rw [HR.out]
       refine ⟨rfl, R, ?_, rfl⟩
       repeat (refine Mid.other ?_ F2.out.nz (by omega) _ _)
       exact F2.out.mid
   · clear hn
     have F0 := Fr.start h c 36 33
     go_enter Tryz.func37, Tryz.ntmps37
     go_upto_region 1 with fail
     generalize (w.alloc (.cells #[.int .i64 c.k, .string c.p, .string c.o, .int .i64 c.fd, .int .i64 c.n, .string c.d, .bool c.on] 36)).alloc (.cells #[.int .i64 0, .int .i64 0, .string ⟨#[]⟩, .slice none 0 0, .int .i64 0, .int .i64 0, .int .i64 0, .bool false, .slice none 0 0, .bool false] 33) = W1 at *
     have F1 := Lh F0
     clear F0
     obtain ⟨a0, a1, a2, a3, a4, a5, a6⟩ := row7_cells F1.out.call
     obtain ⟨m0, m1, m2, m3, m4⟩ := F1.out.md.cells
     go_wp2_with fail
     refine (mfailed _ _).mono ?_
     rintro e W2 ⟨rfl, hb⟩
     have F2 := Lh (F1.out.below hb)
     clear hb F1
     obtain ⟨_, _, _, _, _, _, _, _, _, _, _, _, _, _, _, _, _, _, _, _⟩ := row10_all F2.out.ans
     unfold failV anV Stt.zero
     go_wp2_with fail
     refine fin10 Tryz.results37 rfl rfl F2.out.ans ?_
     · unfold OpR
       rw [HR.out]
       refine ⟨rfl, R, ?_, rfl⟩
       repeat (refine Mid.other ?_ F2.out.nz (by omega) _ _)
       exact F2.out.mid
end Go.Proofs.YtppdihpobokfnaaGreatDoor
