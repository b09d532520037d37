/- A part of a proof. -/
import Derived.Test.YtppdihpobokfnaaGreatDoorGW
set_option linter.unusedVariables false
set_option linter.unusedSimpArgs false
set_option maxRecDepth 100000
namespace Go.Proofs.YtppdihpobokfnaaGreatDoor
open Go.RowKit Go.Joins
theorem eight (n : Int) (h : 0 ≤ n ∧ n ≤ 7) : n = 0 ∨ n = 1 ∨ n = 2 ∨ n = 3 ∨ n = 4 ∨ n = 5 ∨ n = 6 ∨ n = 7 := by omega
theorem and1 {n : Int} (h : 0 ≤ n ∧ n ≤ 7) : bits .and .i64 n 1 = n % 2 := by
 rcases eight n h with rfl | rfl | rfl | rfl | rfl | rfl | rfl | rfl <;> decide
theorem and2 {n : Int} (h : 0 ≤ n ∧ n ≤ 7) : bits .and .i64 n 2 = 2 * (n / 2 % 2) := by
 rcases eight n h with rfl | rfl | rfl | rfl | rfl | rfl | rfl | rfl <;> decide
theorem and4 {n : Int} (h : 0 ≤ n ∧ n ≤ 7) : bits .and .i64 n 4 = 4 * (n / 4) := by
 rcases eight n h with rfl | rfl | rfl | rfl | rfl | rfl | rfl | rfl <;> decide
set_option maxHeartbeats 4000000 in
theorem mmissing (R : Rp) (m : Md) (c : Cl) (e : Int) (w : World) (h : MdAt w R m) (hG : Good m) (hn : 0 ≤ c.n ∧ c.n ≤ 7) :
  Calls Tryz.prog 90 #[.pointer (some ⟨R.mb, 0, none⟩), .agg #[.int .i64 c.k, .string c.p, .string c.o, .int .i64 c.fd, .int .i64 c.n, .string c.d, .bool c.on], .int .i64 e] w fun x w' => x = .returned (.tuple #[plV (missingP m c e).1, .int .i64 (missingP m c e).2]) ∧ Below w.heap.size w w' := by
 have HM := Lh ((h.alloc (.cells #[.int .i64 c.k, .string c.p, .string c.o, .int .i64 c.fd, .int .i64 c.n, .string c.d, .bool c.on] 36)).alloc (.cells #[.int .i64 0, .int .i64 0, .string ⟨#[]⟩] 118))
 have HB := Lh (((Below.refl w.heap.size w).alloc (Nat.le_refl _) (.cells #[.int .i64 c.k, .string c.p, .string c.o, .int .i64 c.fd, .int .i64 c.n, .string c.d, .bool c.on] 36)).alloc (by simp) (.cells #[.int .i64 0, .int .i64 0, .string ⟨#[]⟩] 118))
 have HC := Lh ((rowAt_alloc w #[.int .i64 c.k, .string c.p, .string c.o, .int .i64 c.fd, .int .i64 c.n, .string c.d, .bool c.on] 36).alloc (.cells #[.int .i64 0, .int .i64 0, .string ⟨#[]⟩] 118))
 have HZ := rowAt_alloc (w.alloc (.cells #[.int .i64 c.k, .string c.p, .string c.o, .int .i64 c.fd, .int .i64 c.n, .string c.d, .bool c.on] 36)) #[.int .i64 0, .int .i64 0, .string ⟨#[]⟩] 118
 rw [World.size_alloc] at HZ
 have HZ := Lh HZ
 have HL := Lh (fun W (hW : MdAt W R m) => mlocate R m c.p W hW hG)
 obtain ⟨p, z, hq⟩ : ∃ p z, locateP m (bts c.p) = (p, z) := ⟨_, _, rfl⟩
 have HQ := Lh hq
 rw [hq] at HL
 unfold plV at HL
 have hb := and1 hn
 clear hq h hG hn
 go_enter Tryz.func90, Tryz.ntmps90
 go_upto_region 1 with fail
 generalize (w.alloc (.cells #[.int .i64 c.k, .string c.p, .string c.o, .int .i64 c.fd, .int .i64 c.n, .string c.d, .bool c.on] 36)).alloc (.cells #[.int .i64 0, .int .i64 0, .string ⟨#[]⟩] 118) = W1 at *
 obtain ⟨a0, a1, a2, a3, a4, a5, a6⟩ := row7_cells (c := c) HC.out
 obtain ⟨d0, d1, d2⟩ := row3_cells HZ.out
 obtain ⟨f0, f1, f2⟩ := row3_free HZ.out
 by_cases he : e = 210
 · subst he
   by_cases h2 : c.n % 2 = 0
   · have HR := Lh (show missingP m c 210 = (Pl.zero, 210) from by rw [missingP, if_pos (.inr h2)])
     rw [h2] at hb
     clear h2
     go_wp2_with fail
     refine bodyPost_ret (v := .tuple #[.agg #[.int .i64 0, .int .i64 0, .string ⟨#[]⟩], .int .i64 (210)]) ?_ rfl ?_
     · obtain ⟨t0, t1, t2⟩ := row3_cells (show RowAt _ _ [.int .i64 0, .int .i64 0, .string ⟨#[]⟩] from ((HZ.out.set 0 (.int .i64 0)).set 1 (.int .i64 0)).set 2 (.string ⟨#[]⟩))
       simp [results, Tryz.results90, go_sem, t0, t1, t2]; done
     · have XB := HB.out
       exact ⟨by rw [HR.out]; rfl, by go_grown⟩
   · have HR0 := Lh (show missingP m c 210 = if z ≠ 0 then (Pl.zero, 210) else (p, 0) from by rw [missingP, if_neg (by omega), HQ.out])
     rw [show c.n % 2 = 1 from by omega] at hb
     clear h2
     go_wp2_with fail
     refine (HL.out _ HM.out).mono ?_
     rintro x W2 ⟨rfl, hb2⟩
     have hlt := HB.out.size
     have HB2 := Lh (below_chain HB.out hb2 HB.out.size)
     have HZ2 := Lh (HZ.out.below hb2 HZ.out.lt)
     have HP := Lh (rowAt_alloc W2 #[.int .i64 (p.dir : Int), .int .i64 p.node, .string (tx p.name)] 118)
     have HB3 := Lh (HB2.out.alloc HB2.out.size (.cells #[.int .i64 (p.dir : Int), .int .i64 p.node, .string (tx p.name)] 118))
     have HZ3 := Lh (HZ2.out.alloc (.cells #[.int .i64 (p.dir : Int), .int .i64 p.node, .string (tx p.name)] 118))
     have lz := HZ2.out.lt
     clear hb2 HM HL HC HZ HB a0 a1 a2 a3 a4 a5 a6 d0 d1 d2 f0 f1 f2 hb
     go_upto_region 4 with fail
     generalize W2.alloc (.cells #[.int .i64 (p.dir : Int), .int .i64 p.node, .string (tx p.name)] 118) = W3 at *
     obtain ⟨c0, c1, c2⟩ := row3_cells HP.out
     obtain ⟨d0, d1, d2⟩ := row3_cells HZ3.out
     obtain ⟨f0, f1, f2⟩ := row3_free HZ3.out
     by_cases hz : z = 0
     · subst hz
       have HR := Lh (show missingP m c 210 = (p, 0) from by rw [HR0.out, if_neg (by simp)])
       go_wp2_with fail
       refine bodyPost_ret (v := .tuple #[.agg #[.int .i64 (p.dir : Int), .int .i64 p.node, .string (tx p.name)], .int .i64 (0)]) ?_ rfl ?_
       · obtain ⟨t0, t1, t2⟩ := row3_cells (show RowAt _ _ [.int .i64 (p.dir : Int), .int .i64 p.node, .string (tx p.name)] from ((HZ3.out.set 0 (.int .i64 (p.dir : Int))).set 1 (.int .i64 p.node)).set 2 (.string (tx p.name)))
         simp [results, Tryz.results90, go_sem, t0, t1, t2]; done
       · have XB := HB3.out
         exact ⟨by rw [HR.out]; rfl, by go_grown⟩
     · have HR := Lh (show missingP m c 210 = (Pl.zero, 210) from by rw [HR0.out, if_pos hz])
       have hz1 : (z != 0) = true := by rw [bne_iff_ne]; exact hz
       clear hz
       go_wp2_with fail
       refine bodyPost_ret (v := .tuple #[.agg #[.int .i64 0, .int .i64 0, .string ⟨#[]⟩], .int .i64 (210)]) ?_ rfl ?_
       · obtain ⟨t0, t1, t2⟩ := row3_cells (show RowAt _ _ [.int .i64 0, .int .i64 0, .string ⟨#[]⟩] from ((HZ3.out.set 0 (.int .i64 0)).set 1 (.int .i64 0)).set 2 (.string ⟨#[]⟩))
         simp [results, Tryz.results90, go_sem, t0, t1, t2]; done
       · have XB := HB3.out
         exact ⟨by rw [HR.out]; rfl, by go_grown⟩
 · have HR := Lh (show missingP m c e = (Pl.zero, e) from by rw [missingP, if_pos (.inl he)])
   have he1 : (e != 210) = true := by rw [bne_iff_ne]; exact he
   clear he
   go_wp2_with fail
   refine bodyPost_ret (v := .tuple #[.agg #[.int .i64 0, .int .i64 0, .string ⟨#[]⟩], .int .i64 (e)]) ?_ rfl ?_
   · obtain ⟨t0, t1, t2⟩ := row3_cells (show RowAt _ _ [.int .i64 0, .int .i64 0, .string ⟨#[]⟩] from ((HZ.out.set 0 (.int .i64 0)).set 1 (.int .i64 0)).set 2 (.string ⟨#[]⟩))
     simp [results, Tryz.results90, go_sem, t0, t1, t2]; done
   · have XB := HB.out
     exact ⟨by rw [HR.out]; rfl, by go_grown⟩
end Go.Proofs.YtppdihpobokfnaaGreatDoor
