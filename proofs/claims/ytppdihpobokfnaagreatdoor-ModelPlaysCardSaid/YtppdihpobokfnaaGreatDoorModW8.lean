/- A part of a proof. -/
import Derived.Test.YtppdihpobokfnaaGreatDoorModW7
set_option linter.unusedVariables false
set_option linter.unusedSimpArgs false
set_option maxRecDepth 100000
namespace Go.Proofs.YtppdihpobokfnaaGreatDoor
open Go.RowKit Go.Joins
set_option maxHeartbeats 4000000 in
theorem mnothing (R : Rp) (m : Md) (c : Cl) (w : World) (h : MdAt w R m) (hG : Good m) :
  Calls Tryz.prog 53 #[.pointer (some ⟨R.mb, 0, none⟩), .agg #[.int .i64 c.k, .string c.p, .string c.o, .int .i64 c.fd, .int .i64 c.n, .string c.d, .bool c.on]] w (OpR w R (An.zero, m)) := by
 clear hG
 have F0 := Fr.start h c 36 33
 go_enter Tryz.func53, Tryz.ntmps53
 go_upto_region 1 with fail
 generalize (w.alloc (.cells #[.int .i64 c.k, .string c.p, .string c.o, .int .i64 c.fd, .int .i64 c.n, .string c.d, .bool c.on] 36)).alloc (.cells #[.int .i64 0, .int .i64 0, .string ⟨#[]⟩, .slice none 0 0, .int .i64 0, .int .i64 0, .int .i64 0, .bool false, .slice none 0 0, .bool false] 33) = W1 at *
 have F1 := Lh F0
 clear F0
 obtain ⟨_, _, _, _, _, _, _, _, _, _, _, _, _, _, _, _, _, _, _, _⟩ := row10_all F1.out.ans
 go_wp2_with fail
 refine fin10 Tryz.results53 rfl rfl F1.out.ans ?_
 · refine ⟨rfl, R, ?_, rfl⟩
   repeat (refine Mid.other ?_ F1.out.nz (by omega) _ _)
   exact F1.out.mid
set_option maxHeartbeats 4000000 in
theorem mpin (R : Rp) (m : Md) (c : Cl) (w : World) (h : MdAt w R m) (hG : Good m) :
  Calls Tryz.prog 51 #[.pointer (some ⟨R.mb, 0, none⟩), .agg #[.int .i64 c.k, .string c.p, .string c.o, .int .i64 c.fd, .int .i64 c.n, .string c.d, .bool c.on]] w (OpR w R (pinP m c)) := by
 have HG := Lh hG
 have HF := Lh (fun W (hW : MdAt W R m) => mfind R m c.p W hW hG)
 obtain ⟨k, z, hq⟩ : ∃ k z, findP m (bts c.p) = (k, z) := ⟨_, _, rfl⟩
 rw [hq] at HF
 clear hG
 have F0 := Fr.start h c 36 33
 go_enter Tryz.func51, Tryz.ntmps51
 go_upto_region 1 with fail
 generalize (w.alloc (.cells #[.int .i64 c.k, .string c.p, .string c.o, .int .i64 c.fd, .int .i64 c.n, .string c.d, .bool c.on] 36)).alloc (.cells #[.int .i64 0, .int .i64 0, .string ⟨#[]⟩, .slice none 0 0, .int .i64 0, .int .i64 0, .int .i64 0, .bool false, .slice none 0 0, .bool false] 33) = W1 at *
 have F1 := Lh F0
 clear F0
 obtain ⟨a0, a1, a2, a3, a4, a5, a6⟩ := row7_cells F1.out.call
 obtain ⟨m0, m1, m2, m3, m4⟩ := F1.out.md.cells
 by_cases hz : z = 0
 · subst hz
   obtain ⟨d, hd⟩ := findP_there HG.out (p := bts c.p) (by rw [hq])
   rw [hq] at hd
   have HR := Lh (show pinP m c = (An.zero, m.set k fun n => { n with pin := c.on }) from by rw [pinP, hq]; simp)
   have HK := Lh hd
   clear hq hd
   go_wp2_with fail
   refine (HF.out _ F1.out.md).mono ?_
   rintro e W2 ⟨rfl, hb⟩
   have F2 := Lh (F1.out.below hb)
   clear hb F1 HF a0 a1 a2 a3 a4 a5 a6 m0 m1 m2 m3 m4
   obtain ⟨m0, m1, m2, m3, m4⟩ := F2.out.md.cells
   obtain ⟨a0, a1, a2, a3, a4, a5, a6⟩ := row7_cells F2.out.call
   have hl := F2.out.drew.md.look HK.out (by have := HG.out.small HK.out; omega)
   go_wp2_with fail
   go_still_tail 10, (by kernel_rfl)
   change wpList _ _ _ _ _ (World.drew _)
   have F3 := Lh F2.out.drew
   clear F2 hl a0 a1 a2 a3 a4 a5 a6 m0 m1 m2 m3 m4
   generalize World.drew W2 = W3 at *
   have hn := F3.out.md.nodes k d HK.out
   obtain ⟨e0, e1, e2, e3, e4, e5⟩ := hn.cells
   have e6 := hn.free (i := 2) (by omega)
   have F4 := Lh (F3.out.then (Mid.put F3.out.md HK.out 2 (.bool c.on) (f := fun n => { n with pin := c.on }) rfl rfl rfl rfl))
   clear hn
   go_upto_region 5 with fail
   generalize W3.setCell ⟨R.g k, 2, none⟩ (.bool c.on) = W4 at *
   clear F3 e0 e1 e2 e3 e4 e5 e6
   obtain ⟨_, _, _, _, _, _, _, _, _, _, _, _, _, _, _, _, _, _, _, _⟩ := row10_all F4.out.ans
   go_wp2_with fail
   refine fin10 Tryz.results51 rfl rfl F4.out.ans ?_
   · unfold OpR
     rw [HR.out]
     refine ⟨rfl, R, ?_, rfl⟩
     repeat (refine Mid.other ?_ F4.out.nz (by omega) _ _)
     exact F4.out.mid
 · have HR := Lh (show pinP m c = (failA z, m) from by rw [pinP, hq]; simp only []; rw [if_pos hz])
   have hz1 : (z != 0) = true := by rw [bne_iff_ne]; exact hz
   clear hz hq
   go_wp2_with fail
   refine (HF.out _ F1.out.md).mono ?_
   rintro e W2 ⟨rfl, hb⟩
   have F2 := Lh (F1.out.below hb)
   clear hb F1 HF a0 a1 a2 a3 a4 a5 a6 m0 m1 m2 m3 m4
   go_wp2_with fail
   refine (mfailed _ _).mono ?_
   rintro e W3 ⟨rfl, hb⟩
   have F3 := Lh (F2.out.below hb)
   clear hb F2
   obtain ⟨_, _, _, _, _, _, _, _, _, _, _, _, _, _, _, _, _, _, _, _⟩ := row10_all F3.out.ans
   unfold failV anV Stt.zero
   go_wp2_with fail
   refine fin10 Tryz.results51 rfl rfl F3.out.ans ?_
   · unfold OpR
     rw [HR.out]
     refine ⟨rfl, R, ?_, rfl⟩
     repeat (refine Mid.other ?_ F3.out.nz (by omega) _ _)
     exact F3.out.mid
set_option maxHeartbeats 4000000 in
theorem musage (R : Rp) (m : Md) (c : Cl) (w : World) (h : MdAt w R m) (hG : Good m) :
  Calls Tryz.prog 54 #[.pointer (some ⟨R.mb, 0, none⟩), .agg #[.int .i64 c.k, .string c.p, .string c.o, .int .i64 c.fd, .int .i64 c.n, .string c.d, .bool c.on]] w (OpG w R (usageP m, m)) := by
 have h1 : (m.nodes.length : Int) ≤ 1000000 := by have := hG.len; omega
 have h2 : (m.limit : Int) ≤ 1000000 := by have := hG.limit; omega
 have hsub : IntKind.i64.wrap ((m.limit : Int) - (m.nodes.length : Int)) = (m.limit : Int) - (m.nodes.length : Int) := IntWalk.i64_in _ (by omega)
 clear hG
 have F0 := Fr.start h c 36 33
 go_enter Tryz.func54, Tryz.ntmps54
 go_upto_region 1 with fail
 generalize (w.alloc (.cells #[.int .i64 c.k, .string c.p, .string c.o, .int .i64 c.fd, .int .i64 c.n, .string c.d, .bool c.on] 36)).alloc (.cells #[.int .i64 0, .int .i64 0, .string ⟨#[]⟩, .slice none 0 0, .int .i64 0, .int .i64 0, .int .i64 0, .bool false, .slice none 0 0, .bool false] 33) = W1 at *
 have F1 := Lh F0
 clear F0
 obtain ⟨a0, a1, a2, a3, a4, a5, a6⟩ := row7_cells F1.out.call
 obtain ⟨m0, m1, m2, m3, m4⟩ := F1.out.md.cells
 have hl := F1.out.md.drew.many 3
 go_still_tail 10, (by kernel_rfl)
 change wpList _ _ _ _ _ (World.drew _)
 have F2 := Lh F1.out.drew
 clear F1 hl a0 a1 a2 a3 a4 a5 a6 m0 m1 m2 m3 m4
 generalize World.drew W1 = W2 at *
 have F3 := Lh (F2.out.alloc (.cells #[.int .i64 ((m.limit : Int) - (m.nodes.length : Int))] 3))
 have HL := Lh (rowAt_alloc W2 #[.int .i64 ((m.limit : Int) - (m.nodes.length : Int))] 3)
 have HN := Lh (F2.out.md.fresh (Nat.le_refl _))
 have HS := F2.out.size
 generalize hW3 : W2.alloc (.cells #[.int .i64 ((m.limit : Int) - (m.nodes.length : Int))] 3) = W3 at *
 obtain ⟨_, _, _, _, _, _, _, _, _, _, _, _, _, _, _, _, _, _, _, _⟩ := row10_all F3.out.ans
 go_wp2_with fail
 refine fin10 Tryz.results54 rfl rfl F3.out.ans ?_
 · refine ⟨nilS, .slice (some ⟨W2.heap.size, 0, none⟩) 1 1, rfl, R, ?_, rfl, .inl ⟨rfl, rfl⟩, .inr ⟨W2.heap.size, 1, rfl, ?_, HN.out, by omega⟩⟩
   · repeat (refine Mid.other ?_ F3.out.nz (by omega) _ _)
     exact F3.out.mid
   · repeat (refine RowAt.other ?_ _ _ (by simp; omega))
     exact HL.out
set_option maxHeartbeats 4000000 in
theorem mthere (R : Rp) (m : Md) (s : ByteArray) (w : World) (h : MdAt w R m) (hG : Good m) :
  Calls Tryz.prog 98 #[.pointer (some ⟨R.mb, 0, none⟩), .string s] w fun e w' => e = .returned (.tuple #[plV (thereP m (bts s)).1, .int .i64 (thereP m (bts s)).2]) ∧ Below w.heap.size w w' := by
 have HB0 := Lh (show Below w.heap.size w (w.alloc (.cells #[.int .i64 0, .int .i64 0, .string ⟨#[]⟩] 118)) from by go_grown)
 have HZ := Lh (rowAt_alloc w #[.int .i64 0, .int .i64 0, .string ⟨#[]⟩] 118)
 have HL := Lh (mlocate R m s _ (h.alloc (.cells #[.int .i64 0, .int .i64 0, .string ⟨#[]⟩] 118)) hG)
 obtain ⟨p, z, hq⟩ : ∃ p z, locateP m (bts s) = (p, z) := ⟨_, _, rfl⟩
 have HQ := Lh hq
 rw [hq] at HL
 unfold plV at HL
 clear hq h hG
 go_enter Tryz.func98, Tryz.ntmps98
 go_wp2_with fail
 refine HL.out.mono ?_
 rintro e w1 ⟨rfl, hb⟩
 have B1 := below_chain HB0.out hb HB0.out.size
 have Z1 := HZ.out.below hb HZ.out.lt
 have HP := rowAt_alloc w1 #[.int .i64 (p.dir : Int), .int .i64 p.node, .string (tx p.name)] 118
 have B2 := B1.alloc B1.size (.cells #[.int .i64 (p.dir : Int), .int .i64 p.node, .string (tx p.name)] 118)
 have Z2 := Z1.alloc (.cells #[.int .i64 (p.dir : Int), .int .i64 p.node, .string (tx p.name)] 118)
 have HPH := Lh HP
 have BH := Lh B2
 have ZH := Lh Z2
 have lw := B1.size
 have lz := Z1.lt
 clear hb B1 Z1 HP B2 Z2 HL HB0 HZ
 go_upto_region 2 with fail
 generalize w1.alloc (.cells #[.int .i64 (p.dir : Int), .int .i64 p.node, .string (tx p.name)] 118) = W2 at *
 obtain ⟨c0, c1, c2⟩ := row3_cells HPH.out
 obtain ⟨d0, d1, d2⟩ := row3_cells ZH.out
 obtain ⟨f0, f1, f2⟩ := row3_free ZH.out
 by_cases hz : z = 0
 · subst hz
   by_cases hn : p.node < 0
   · have HR := Lh (show thereP m (bts s) = (Pl.zero, 210) from by rw [thereP, HQ.out, if_pos ⟨rfl, hn⟩])
     go_wp2_with fail
     refine bodyPost_ret (v := .tuple #[.agg #[.int .i64 0, .int .i64 0, .string ⟨#[]⟩], .int .i64 (210)]) ?_ rfl ?_
     · obtain ⟨t0, t1, t2⟩ := row3_cells (show RowAt _ _ [.int .i64 0, .int .i64 0, .string ⟨#[]⟩] from ((ZH.out.set 0 (.int .i64 0)).set 1 (.int .i64 0)).set 2 (.string ⟨#[]⟩))
       simp [results, Tryz.results98, go_sem, t0, t1, t2]; done
     · have XB := BH.out
       exact ⟨by rw [HR.out]; rfl, by go_grown⟩
   · have HR := Lh (show thereP m (bts s) = (p, 0) from by rw [thereP, HQ.out, if_neg (fun h => hn h.2)])
     go_wp2_with fail
     refine bodyPost_ret (v := .tuple #[.agg #[.int .i64 (p.dir : Int), .int .i64 p.node, .string (tx p.name)], .int .i64 (0)]) ?_ rfl ?_
     · obtain ⟨t0, t1, t2⟩ := row3_cells (show RowAt _ _ [.int .i64 (p.dir : Int), .int .i64 p.node, .string (tx p.name)] from ((ZH.out.set 0 (.int .i64 (p.dir : Int))).set 1 (.int .i64 p.node)).set 2 (.string (tx p.name)))
       simp [results, Tryz.results98, go_sem, t0, t1, t2]; done
     · have XB := BH.out
       exact ⟨by rw [HR.out]; rfl, by go_grown⟩
 · have HR := Lh (show thereP m (bts s) = (p, z) from by rw [thereP, HQ.out, if_neg (fun h => hz h.1)])
   have hz1 : (z == 0) = false := by rw [beq_eq_false_iff_ne]; exact hz
   clear hz
   go_wp2_with fail
   refine bodyPost_ret (v := .tuple #[.agg #[.int .i64 (p.dir : Int), .int .i64 p.node, .string (tx p.name)], .int .i64 (z)]) ?_ rfl ?_
   · obtain ⟨t0, t1, t2⟩ := row3_cells (show RowAt _ _ [.int .i64 (p.dir : Int), .int .i64 p.node, .string (tx p.name)] from ((ZH.out.set 0 (.int .i64 (p.dir : Int))).set 1 (.int .i64 p.node)).set 2 (.string (tx p.name)))
     simp [results, Tryz.results98, go_sem, t0, t1, t2]; done
   · have XB := BH.out
     exact ⟨by rw [HR.out]; rfl, by go_grown⟩
end Go.Proofs.YtppdihpobokfnaaGreatDoor
