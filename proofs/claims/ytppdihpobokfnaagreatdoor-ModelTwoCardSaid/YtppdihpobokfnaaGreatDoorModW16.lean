/- Walks: a model: unlink, rmdir -/
import Derived.Test.YtppdihpobokfnaaGreatDoorModW13
import Derived.Test.YtppdihpobokfnaaGreatDoorModW8
import Derived.Test.YtppdihpobokfnaaGreatDoorGPlain
set_option linter.unusedVariables false
set_option linter.unusedSimpArgs false
set_option maxRecDepth 100000
namespace Go.Proofs.YtppdihpobokfnaaGreatDoor
open Go.RowKit Go.Joins


set_option maxHeartbeats 4000000 in
theorem munlink (R : Rp) (m : Md) (c : Cl) (w : World) (h : MdAt w R m) (hG : Good m) :
    Calls Tryz.prog 46 #[.pointer (some ⟨R.mb, 0, none⟩), .agg #[.int .i64 c.k, .string c.p, .string c.o, .int .i64 c.fd, .int .i64 c.n, .string c.d, .bool c.on]] w (OpR w R (unlinkP m c)) := by
  have HG := Lib.hid hG
  obtain ⟨pd, pn, pa, z, hq⟩ : ∃ pd pn pa z, thereP m (bts c.p) = (⟨pd, pn, pa⟩, z) := ⟨_, _, _, _, rfl⟩
  have hL := fun W (hW : MdAt W R m) => mthere R m c.p W hW hG
  rw [hq] at hL
  unfold plV at hL
  have HL := Lib.hid hL
  have HQ := Lib.hid hq
  clear hL
  by_cases hz : z = 0
  · subst hz
    obtain ⟨dd, k, d, h1, h2, h3, h4, h5, h6⟩ := thereP_ok hG (p := bts c.p) (by rw [hq])
    rw [hq] at h1 h3 h4 h5
    have h5 : pn = (k : Int) := h5
    subst h5
    have HD := Lib.hid h1
    have HD2 := Lib.hid h2
    have HNL := Lib.hid (show pa.length ≤ 1000000 from by have h3' : pa.length ≤ 32 := h3; omega)
    have HLK := Lib.hid (show lookN dd.names pa = some k from h4)
    have HK := Lib.hid h6
    clear h1 h2 h3 h4 h5 h6 hq hG
    have F0 := Fr.start h c 36 33
    go_enter Tryz.func46, Tryz.ntmps46
    go_upto_region 1 with fail
    generalize (w.alloc (.cells #[.int .i64 c.k, .string c.p, .string c.o, .int .i64 c.fd, .int .i64 c.n, .string c.d, .bool c.on] 36)).alloc (.cells #[.int .i64 0, .int .i64 0, .string ⟨#[]⟩, .slice none 0 0, .int .i64 0, .int .i64 0, .int .i64 0, .bool false, .slice none 0 0, .bool false] 33) = W1 at *
    have F1 := Lib.hid F0
    clear F0
    obtain ⟨a0, a1, a2, a3, a4, a5, a6⟩ := row7_cells F1.out.call
    obtain ⟨m0, m1, m2, m3, m4⟩ := F1.out.md.cells
    go_wp2_with fail
    refine (HL.out _ F1.out.md).mono ?_
    rintro e W2 ⟨rfl, hb⟩
    have F2 := Lib.hid (F1.out.below hb)
    have F3 := Lib.hid (F2.out.alloc (.cells #[.int .i64 (pd : Int), .int .i64 (k : Int), .string (tx pa)] 118))
    have HP := Lib.hid (rowAt_alloc W2 #[.int .i64 (pd : Int), .int .i64 (k : Int), .string (tx pa)] 118)
    have HPN := Lib.hid (F2.out.md.fresh (Nat.le_refl W2.heap.size))
    have HPZ := F2.out.size
    clear hb F1 HL a0 a1 a2 a3 a4 a5 a6 m0 m1 m2 m3 m4
    go_upto_region 2 with fail
    generalize W2.alloc (.cells #[.int .i64 (pd : Int), .int .i64 (k : Int), .string (tx pa)] 118) = W3 at *
    clear F2
    obtain ⟨p0, p1, p2⟩ := row3_cells HP.out
    obtain ⟨m0, m1, m2, m3, m4⟩ := F3.out.md.cells
    have L1 := fun n => (F3.out.md.drewN n).look HK.out (by have := HG.out.small HK.out; omega)
    obtain ⟨e0, e1, e2, e3, e4, e5⟩ := (F3.out.md.nodes _ _ HK.out).cells
    go_wp2_with fail
    go_quiet (fail)
    clear L1 m0 m1 m2 m3 m4 e0 e1 e2 e3 e4 e5 p0 p1 p2
    have F4 := Lib.hid (F3.out.drewN nq)
    have HP4 := Lib.hid (HP.out.same (w' := W3.drewN nq) rfl)
    clear F3 HP
    generalize W3.drewN nq = W4 at *
    by_cases hk : d.kind = 2
    · have HR := Lib.hid (show unlinkP m c = (failA 213, m) from by rw [unlinkP, HQ.out]; simp only []; rw [if_neg (by simp), Int.toNat_natCast, Md.get_look HK.out, if_pos hk])
      have hk1 : (d.kind == 2) = true := by rw [beq_iff_eq]; exact hk
      clear hk
      go_wp2_with fail
      refine (mfailed _ _).mono ?_
      rintro e W5 ⟨rfl, hb⟩
      have F5 := Lib.hid (F4.out.below hb)
      clear hb F4
      obtain ⟨z0, z1, z2, z3, z4, z5, z6, z7, z8, z9⟩ := row10_cells F5.out.ans
      obtain ⟨y0, y1, y2, y3, y4, y5, y6, y7, y8, y9⟩ := row10_free F5.out.ans
      unfold failV anV Stt.zero
      go_wp2_with fail
      refine bodyPost_ret (v := .agg #[.int .i64 (213), .int .i64 (0), .string (⟨#[]⟩), nilS, .int .i64 (0), .int .i64 (0), .int .i64 (0), .bool (false), nilS, .bool false]) ?_ rfl ?_
      · obtain ⟨t0, t1, t2, t3, t4, t5, t6, t7, t8, t9⟩ := row10_cells (show RowAt _ _ [.int .i64 (213), .int .i64 (0), .string (⟨#[]⟩), nilS, .int .i64 (0), .int .i64 (0), .int .i64 (0), .bool (false), nilS, .bool false] from ((((((((((F5.out.ans.set 0 (.int .i64 (213))).set 1 (.int .i64 (0))).set 2 (.string (⟨#[]⟩))).set 3 (nilS)).set 4 (.int .i64 (0))).set 5 (.int .i64 (0))).set 6 (.int .i64 (0))).set 7 (.bool (false))).set 8 (nilS)).set 9 (.bool false)))
        simp [results, Tryz.results46, go_sem, t0, t1, t2, t3, t4, t5, t6, t7, t8, t9]; done
      · unfold OpR
        rw [HR.out]
        refine ⟨rfl, R, ?_, rfl⟩
        repeat (refine Mid.other ?_ F5.out.nz (by omega) _ _)
        exact F5.out.mid
    · have hk1 : (d.kind == 2) = false := by rw [beq_eq_false_iff_ne]; exact hk
      have HR := Lib.hid (show unlinkP m c = (An.zero, dropP m ⟨pd, (k : Int), pa⟩) from by rw [unlinkP, HQ.out]; simp only []; rw [if_neg (by simp), Int.toNat_natCast, Md.get_look HK.out, if_neg hk])
      have hne : k ≠ pd := fun hh => hk (by subst hh; have := HK.out.symm.trans HD.out; cases this; exact HD2.out)
      have HDR := Lib.hid (fun W (hW : MdAt W R m) => mdrop R m ⟨pd, (k : Int), pa⟩ k d dd W hW HG.out rfl HK.out HD.out HD2.out hne HNL.out)
      obtain ⟨p0, p1, p2⟩ := row3_cells HP4.out
      clear hne
      go_wp2_with fail
      refine (HDR.out _ F4.out.md).mono ?_
      rintro e W5 ⟨rfl, R', hM, hmb⟩
      have F5 := Lib.hid (F4.out.then hM)
      have HMB := Lib.hid hmb
      clear hM hmb HDR F4 HP4 p0 p1 p2
      obtain ⟨z0, z1, z2, z3, z4, z5, z6, z7, z8, z9⟩ := row10_cells F5.out.ans
      obtain ⟨y0, y1, y2, y3, y4, y5, y6, y7, y8, y9⟩ := row10_free F5.out.ans
      go_wp2_with fail
      refine bodyPost_ret (v := .agg #[.int .i64 (0), .int .i64 (0), .string (⟨#[]⟩), nilS, .int .i64 (0), .int .i64 (0), .int .i64 (0), .bool (false), nilS, .bool false]) ?_ rfl ?_
      · obtain ⟨t0, t1, t2, t3, t4, t5, t6, t7, t8, t9⟩ := row10_cells (show RowAt _ _ [.int .i64 (0), .int .i64 (0), .string (⟨#[]⟩), nilS, .int .i64 (0), .int .i64 (0), .int .i64 (0), .bool (false), nilS, .bool false] from ((((((((((F5.out.ans.set 0 (.int .i64 (0))).set 1 (.int .i64 (0))).set 2 (.string (⟨#[]⟩))).set 3 (nilS)).set 4 (.int .i64 (0))).set 5 (.int .i64 (0))).set 6 (.int .i64 (0))).set 7 (.bool (false))).set 8 (nilS)).set 9 (.bool false)))
        simp [results, Tryz.results46, go_sem, t0, t1, t2, t3, t4, t5, t6, t7, t8, t9]; done
      · unfold OpR
        rw [HR.out]
        refine ⟨rfl, R', ?_, HMB.out⟩
        repeat (refine Mid.other ?_ F5.out.nz (by omega) _ _)
        exact F5.out.mid
  · have HR := Lib.hid (show unlinkP m c = (failA z, m) from by rw [unlinkP, HQ.out]; simp only []; rw [if_pos hz])
    have hz1 : (z != 0) = true := by rw [bne_iff_ne]; exact hz
    clear hz hq hG
    have F0 := Fr.start h c 36 33
    go_enter Tryz.func46, Tryz.ntmps46
    go_upto_region 1 with fail
    generalize (w.alloc (.cells #[.int .i64 c.k, .string c.p, .string c.o, .int .i64 c.fd, .int .i64 c.n, .string c.d, .bool c.on] 36)).alloc (.cells #[.int .i64 0, .int .i64 0, .string ⟨#[]⟩, .slice none 0 0, .int .i64 0, .int .i64 0, .int .i64 0, .bool false, .slice none 0 0, .bool false] 33) = W1 at *
    have F1 := Lib.hid F0
    clear F0
    obtain ⟨a0, a1, a2, a3, a4, a5, a6⟩ := row7_cells F1.out.call
    obtain ⟨m0, m1, m2, m3, m4⟩ := F1.out.md.cells
    go_wp2_with fail
    refine (HL.out _ F1.out.md).mono ?_
    rintro e W2 ⟨rfl, hb⟩
    have F2 := Lib.hid (F1.out.below hb)
    have F3 := Lib.hid (F2.out.alloc (.cells #[.int .i64 (pd : Int), .int .i64 pn, .string (tx pa)] 118))
    have HP := Lib.hid (rowAt_alloc W2 #[.int .i64 (pd : Int), .int .i64 pn, .string (tx pa)] 118)
    have HPN := Lib.hid (F2.out.md.fresh (Nat.le_refl W2.heap.size))
    have HPZ := F2.out.size
    clear hb F1 HL a0 a1 a2 a3 a4 a5 a6 m0 m1 m2 m3 m4
    go_upto_region 2 with fail
    generalize W2.alloc (.cells #[.int .i64 (pd : Int), .int .i64 pn, .string (tx pa)] 118) = W3 at *
    clear F2
    obtain ⟨p0, p1, p2⟩ := row3_cells HP.out
    go_wp2_with fail
    refine (mfailed _ _).mono ?_
    rintro e W3 ⟨rfl, hb⟩
    have F4 := Lib.hid (F3.out.below hb)
    clear hb F3
    obtain ⟨z0, z1, z2, z3, z4, z5, z6, z7, z8, z9⟩ := row10_cells F4.out.ans
    obtain ⟨y0, y1, y2, y3, y4, y5, y6, y7, y8, y9⟩ := row10_free F4.out.ans
    unfold failV anV Stt.zero
    go_wp2_with fail
    refine bodyPost_ret (v := .agg #[.int .i64 (z), .int .i64 (0), .string (⟨#[]⟩), nilS, .int .i64 (0), .int .i64 (0), .int .i64 (0), .bool (false), nilS, .bool false]) ?_ rfl ?_
    · obtain ⟨t0, t1, t2, t3, t4, t5, t6, t7, t8, t9⟩ := row10_cells (show RowAt _ _ [.int .i64 (z), .int .i64 (0), .string (⟨#[]⟩), nilS, .int .i64 (0), .int .i64 (0), .int .i64 (0), .bool (false), nilS, .bool false] from ((((((((((F4.out.ans.set 0 (.int .i64 (z))).set 1 (.int .i64 (0))).set 2 (.string (⟨#[]⟩))).set 3 (nilS)).set 4 (.int .i64 (0))).set 5 (.int .i64 (0))).set 6 (.int .i64 (0))).set 7 (.bool (false))).set 8 (nilS)).set 9 (.bool false)))
      simp [results, Tryz.results46, go_sem, t0, t1, t2, t3, t4, t5, t6, t7, t8, t9]; done
    · unfold OpR
      rw [HR.out]
      refine ⟨rfl, R, ?_, rfl⟩
      repeat (refine Mid.other ?_ F4.out.nz (by omega) _ _)
      exact F4.out.mid

end Go.Proofs.YtppdihpobokfnaaGreatDoor
