/- A part of a proof. -/
import Derived.Test.YtppdihpobokfnaaGreatDoorGA
set_option linter.unusedVariables false
set_option linter.unusedSimpArgs false
set_option maxRecDepth 100000
namespace Go.Proofs.YtppdihpobokfnaaGreatDoor
open Go.RowKit Go.Joins
theorem loc_snoc (m : Md) (ps : List Bs) (x : Bs) : locParts m (ps ++ [x]) = if x = [46] ∨ x = [46, 46] then (Pl.zero, 216) else if (walkFrom m 0 ps).2 ≠ 0 then (Pl.zero, (walkFrom m 0 ps).2) else if (m.get (walkFrom m 0 ps).1).kind ≠ 2 then (Pl.zero, 212) else (⟨(walkFrom m 0 ps).1, nodeAt (lookN (m.get (walkFrom m 0 ps).1).names x), x⟩, 0) := by
 rw [locParts, List.getLast?_concat, List.dropLast_concat]
theorem row3_cells {W : World} {b : Nat} {x y z : Value} (h : RowAt W b [x, y, z]) : W.cell? ⟨b, 0, none⟩ = some x ∧ W.cell? ⟨b, 1, none⟩ = some y ∧ W.cell? ⟨b, 2, none⟩ = some z := ⟨h.cell 0 (by simp), h.cell 1 (by simp), h.cell 2 (by simp)⟩
theorem row3_free {W : World} {b : Nat} {x y z : Value} (h : RowAt W b [x, y, z]) : W.frozen? ⟨b, 0, none⟩ = false ∧ W.frozen? ⟨b, 1, none⟩ = false ∧ W.frozen? ⟨b, 2, none⟩ = false := ⟨h.frozen 0 (by simp), h.frozen 1 (by simp), h.frozen 2 (by simp)⟩
set_option maxHeartbeats 8000000 in
theorem mlocate (R : Rp) (m : Md) (s : ByteArray) (w : World) (h : MdAt w R m) (hG : Good m) :
  Calls Tryz.prog 97 #[.pointer (some ⟨R.mb, 0, none⟩), .string s] w fun e w' => e = .returned (.tuple #[plV (locateP m (bts s)).1, .int .i64 (locateP m (bts s)).2]) ∧ Below w.heap.size w w' := by
 obtain ⟨l, z, hl⟩ := split_list s
 have HS := Lh (fun W => csplit_is hl W)
 have z0 := rowAt_alloc w #[.int .i64 0, .int .i64 0, .string ⟨#[]⟩] 118
 have HB0 := Lh (show Below w.heap.size w (w.alloc (.cells #[.int .i64 0, .int .i64 0, .string ⟨#[]⟩] 118)) from by go_grown)
 have HZ := Lh z0
 have HM := Lh (h.alloc (.cells #[.int .i64 0, .int .i64 0, .string ⟨#[]⟩] 118))
 have HG := Lh hG
 clear z0 h
 by_cases hz : z = 0
 · subst hz
   have HP := Lh (split_parts hl)
   have HL := Lh (split_short hl)
   have HQ := Lh (show locateP m (bts s) = locParts m (l.map bts) from by rw [locateP, hl]; rfl)
   clear hl hG
   rcases List.eq_nil_or_concat l with hc | ⟨init, x, hc⟩
   · subst hc
     have HR := Lh (show locateP m (bts s) = (Pl.zero, 216) from by rw [HQ.out]; rfl)
     go_enter Tryz.func97, Tryz.ntmps97
     go_wp2_with fail
     refine (HS.out _).mono ?_
     rintro e w1 ⟨⟨a, cap, rfl, h1, h2, hn⟩, hb⟩
     have B1 := below_chain HB0.out hb HB0.out.size
     have HZ1 := Lh (HZ.out.below hb HZ.out.lt)
     obtain ⟨c0, c1, c2⟩ := row3_cells HZ1.out
     obtain ⟨f0, f1, f2⟩ := row3_free HZ1.out
     have lz := HZ1.out.lt
     clear hn hb h2
     go_wp2_with fail
     refine bodyPost_ret (v := .tuple #[.agg #[.int .i64 0, .int .i64 0, .string ⟨#[]⟩], .int .i64 216]) ?_ rfl ?_
     · obtain ⟨t0, t1, t2⟩ := row3_cells (show RowAt _ _ [.int .i64 0, .int .i64 0, .string ⟨#[]⟩] from ((HZ1.out.set 0 (.int .i64 0)).set 1 (.int .i64 0)).set 2 (.string ⟨#[]⟩))
       simp [results, Tryz.results97, go_sem, t0, t1, t2]; done
     · exact ⟨by rw [HR.out]; rfl, by go_grown⟩
   · rw [List.concat_eq_append] at hc
     subst hc
     have hq : (init ++ [x]).length = init.length + 1 := by simp
     have hil : init.length ≤ 16 := by have := HL.out; omega
     have HLP := Lh (loc_snoc m (init.map bts) (bts x))
     rw [List.map_append, List.map_cons, List.map_nil] at HQ
     rw [hq] at HS
     clear hq
     go_enter Tryz.func97, Tryz.ntmps97
     go_wp2_with fail
     refine (HS.out _).mono ?_
     rintro e w1 ⟨⟨a, cap, rfl, h1, h2, hn⟩, hb⟩
     have B1 := below_chain HB0.out hb HB0.out.size
     have HZ1 := Lh (HZ.out.below hb HZ.out.lt)
     obtain ⟨c0, c1, c2⟩ := row3_cells HZ1.out
     obtain ⟨f0, f1, f2⟩ := row3_free HZ1.out
     have lz := HZ1.out.lt
     obtain ⟨g1, rfl, R1⟩ : ∃ g, a = some ⟨g, 0, none⟩ ∧ RowAt w1 g (strs (init ++ [x])) := by
      rcases hn with h | ⟨g, q1, _, q3⟩
      · have h2 := congrArg List.length h
        rw [strs_len] at h2
        simp at h2
      · exact ⟨g, q1, q3⟩
     have n0 : w1.cell? ⟨g1, init.length, none⟩ = some (.string x) := by
      rw [R1.cell _ (by rw [strs_len]; simp)]
      exact strs_get (by simp)
     have HV := Lh (show ValS w1 (some ⟨g1, 0, none⟩) (strs init) from vals_front (r := strs [x]) (by rw [strs, List.map_append] at R1; exact R1))
     have HM1 := Lh (HM.out.below hb (Nat.le_refl _))
     have HW := Lh (mwalk R m (some ⟨g1, 0, none⟩) cap init w1 HM1.out HG.out HV.out (by omega) (fun y hy => by have := HP.out y (List.mem_append_left _ hy); omega))
     have hcc : (init.length : Int) ≤ (cap : Int) := by omega
     have f3 : (0 : Int) ≤ (init.length : Int) := by omega
     have f4 : (init.length : Int) < (init.length : Int) + 1 := by omega
     have f5 : ¬ (init.length : Int) < 0 := by omega
     have gl := R1.lt
     clear hn hb h2 HS R1 h1
     by_cases d1 : bts x = [46]
     · have HR := Lh (show locateP m (bts s) = (Pl.zero, 216) from by rw [HQ.out, HLP.out, if_pos (.inl d1)])
       obtain ⟨t1, t2⟩ := txt_yes d1
       clear d1
       go_wp2_with fail
       refine bodyPost_ret (v := .tuple #[.agg #[.int .i64 0, .int .i64 0, .string ⟨#[]⟩], .int .i64 216]) ?_ rfl ?_
       · obtain ⟨t0, t1, t2⟩ := row3_cells (show RowAt _ _ [.int .i64 0, .int .i64 0, .string ⟨#[]⟩] from ((HZ1.out.set 0 (.int .i64 0)).set 1 (.int .i64 0)).set 2 (.string ⟨#[]⟩))
         simp [results, Tryz.results97, go_sem, t0, t1, t2]; done
       · exact ⟨by rw [HR.out]; rfl, by go_grown⟩
     by_cases d2 : bts x = [46, 46]
     · have HR := Lh (show locateP m (bts s) = (Pl.zero, 216) from by rw [HQ.out, HLP.out, if_pos (.inr d2)])
       obtain ⟨t1, t2⟩ := txt_yes d2
       obtain ⟨t3, t4⟩ := txt_no d1
       clear d1 d2 t1
       go_wp2_with fail
       refine bodyPost_ret (v := .tuple #[.agg #[.int .i64 0, .int .i64 0, .string ⟨#[]⟩], .int .i64 216]) ?_ rfl ?_
       · obtain ⟨t0, t1, t2⟩ := row3_cells (show RowAt _ _ [.int .i64 0, .int .i64 0, .string ⟨#[]⟩] from ((HZ1.out.set 0 (.int .i64 0)).set 1 (.int .i64 0)).set 2 (.string ⟨#[]⟩))
         simp [results, Tryz.results97, go_sem, t0, t1, t2]; done
       · exact ⟨by rw [HR.out]; rfl, by go_grown⟩
     obtain ⟨t1, t2⟩ := txt_no d1
     obtain ⟨t3, t4⟩ := txt_no d2
     have HN := Lh (show ¬ (bts x = [46] ∨ bts x = [46, 46]) from fun h => h.elim d1 d2)
     clear d1 d2
     by_cases he : (walkFrom m 0 (init.map bts)).2 = 0
     · have hTh := walkFrom_there HG.out HG.out.root.there he
       obtain ⟨k, hkk⟩ : ∃ k, k = (walkFrom m 0 (init.map bts)).1 := ⟨_, rfl⟩
       rw [← hkk] at hTh
       obtain ⟨d, hd⟩ := hTh
       have hks : k ≤ 1000000000 := by have := HG.out.small hd; omega
       have HE := Lh (And.intro he hkk)
       rw [he, ← hkk] at HW
       have hlk := HM1.out.look hd hks
       obtain ⟨m0, m1, m2, m3, m4⟩ := HM1.out.cells
       have hnd := HM1.out.nodes k d hd
       obtain ⟨e0, e1, e2, e3, e4, e5⟩ := hnd.cells
       have HX := Lh (show (locParts m (init.map bts ++ [bts x])) = if d.kind ≠ 2 then (Pl.zero, 212) else (⟨k, nodeAt (lookN d.names (bts x)), bts x⟩, 0) from by rw [HLP.out, if_neg HN.out, if_neg (by rw [he]; simp), ← hkk, Md.get_look hd])
       have gk := HM1.out.lt_of hnd.lab
       have HHD := Lh hd
       obtain ⟨gg, hgg⟩ : ∃ gg, R.g k = gg := ⟨_, rfl⟩
       have HGG := Lh hgg
       rw [hgg] at hlk e0 e1 e2 e3 e4 e5 gk
       clear he hkk HLP HN hgg
       by_cases h2 : d.kind = 2
       · rw [if_pos h2] at e4
         rw [h2] at e0
         have hlu := hnd.look h2 (s := x) (by have := HP.out x (by simp); omega)
         have HX2 := Lh (show locateP m (bts s) = (⟨k, nodeAt (lookN d.names (bts x)), bts x⟩, 0) from by rw [HQ.out, HX.out, if_neg (by rw [h2]; simp)])
         have hxb := tx_back x
         have HXB := Lh hxb
         have HKI := Lh h2
         clear h2 hd hnd hxb HX
         go_wp2_with fail
         refine HW.out.mono ?_
         rintro e w2 ⟨rfl, rfl⟩
         have HMA := HM1.out.alloc (.cells #[.int .i64 (k : Int), .int .i64 (-1), .string x] 118)
         have HPA := rowAt_alloc w1 #[.int .i64 (k : Int), .int .i64 (-1), .string x] 118
         have HZA := HZ1.out.alloc (.cells #[.int .i64 (k : Int), .int .i64 (-1), .string x] 118)
         have BA := B1.alloc B1.size (.cells #[.int .i64 (k : Int), .int .i64 (-1), .string x] 118)
         have n1 : (w1.alloc (.cells #[.int .i64 (k : Int), .int .i64 (-1), .string x] 118)).cell? ⟨g1, init.length, none⟩ = some (.string x) := by rw [World.cell?_alloc_old _ _ _ (by simp; omega)]; exact n0
         go_wp2_with fail
         clear n0 c0 c1 c2 f0 f1 f2 m0 m1 m2 m3 m4 e0 e1 e2 e3 e4 e5 hlk hlu t1 t2 t3 t4
         generalize w1.alloc (.cells #[.int .i64 (k : Int), .int .i64 (-1), .string x] 118) = WA at *
         have HMH := Lh HMA
         have HPH := Lh HPA
         have HZH := Lh HZA
         have BH := Lh BA
         have L1 := fun n => (HMH.out.drewN n).look HHD.out hks
         have L2 := fun n => ((HMH.out.drewN n).nodes k d HHD.out).look HKI.out (s := x) (by have := HP.out x (by simp); omega)
         rw [HGG.out] at L1
         obtain ⟨m0, m1, m2, m3, m4⟩ := HMH.out.cells
         obtain ⟨e0, e1, e2, e3, e4, e5⟩ := (HMH.out.nodes k d HHD.out).cells
         rw [if_pos HKI.out] at e4
         rw [HGG.out] at e0 e1 e2 e3 e4 e5
         clear HMA HPA HZA BA
         go_quiet (fail)
         clear L1 L2 m0 m1 m2 m3 m4 e0 e1 e2 e3 e4 e5 n1
         have XZ := HZH.out.same (w' := WA.drewN nq) rfl
         have XP := HPH.out.same (w' := WA.drewN nq) rfl
         have XB := below_drewN BH.out nq
         generalize WA.drewN nq = WB at *
         have XZH := Lh XZ
         have XPH := Lh XP
         have XBH := Lh XB
         obtain ⟨c0, c1, c2⟩ := row3_cells XZH.out
         obtain ⟨f0, f1, f2⟩ := row3_free XZH.out
         obtain ⟨p0, p1, p2⟩ := row3_cells XPH.out
         obtain ⟨q0, q1, q2⟩ := row3_free XPH.out
         have lz := XZH.out.lt
         have lp := XPH.out.lt
         have lw := B1.size
         clear XZ XP XB
         cases hj : lookN d.names (bts x) with
         | none =>
          have HR := Lh (show locateP m (bts s) = (⟨k, -1, bts x⟩, 0) from by rw [HX2.out, hj]; rfl)
          clear hj HX2
          go_wp2_with fail
          refine bodyPost_ret (v := .tuple #[.agg #[.int .i64 (k : Int), .int .i64 (-1), .string x], .int .i64 0]) ?_ rfl ?_
          · obtain ⟨t0, t1, t2⟩ := row3_cells (show RowAt _ _ [.int .i64 (k : Int), .int .i64 (-1), .string x] from ((XZH.out.set 0 (.int .i64 (k : Int))).set 1 (.int .i64 (-1))).set 2 (.string x))
            simp [results, Tryz.results97, go_sem, t0, t1, t2]; done
          · (have XB := XBH.out; exact ⟨by rw [HR.out, plV]; simp only [HXB.out], by go_grown⟩)
         | some j =>
          have HR := Lh (show locateP m (bts s) = (⟨k, (j : Int), bts x⟩, 0) from by rw [HX2.out, hj]; rfl)
          clear hj HX2
          go_wp2_with fail
          have XZ2 := Lh (XZH.out.other ⟨w1.heap.size, 1, none⟩ (.int .i64 (j : Int)) (by simp; omega))
          refine bodyPost_ret (v := .tuple #[.agg #[.int .i64 (k : Int), .int .i64 (j : Int), .string x], .int .i64 0]) ?_ rfl ?_
          · obtain ⟨t0, t1, t2⟩ := row3_cells (show RowAt _ _ [.int .i64 (k : Int), .int .i64 (j : Int), .string x] from ((XZ2.out.set 0 (.int .i64 (k : Int))).set 1 (.int .i64 (j : Int))).set 2 (.string x))
            simp [results, Tryz.results97, go_sem, t0, t1, t2]; done
          · (have XB := XBH.out; exact ⟨by rw [HR.out, plV]; simp only [HXB.out], by go_grown⟩)
       · have HR := Lh (show locateP m (bts s) = (Pl.zero, 212) from by rw [HQ.out, HX.out, if_pos h2])
         have h3 : (d.kind != 2) = true := by rw [bne_iff_ne]; exact h2
         clear h2 hd hnd HX
         go_wp2_with fail
         refine HW.out.mono ?_
         rintro e w2 ⟨rfl, rfl⟩
         go_wp2_with fail
         refine bodyPost_ret (v := .tuple #[.agg #[.int .i64 0, .int .i64 0, .string ⟨#[]⟩], .int .i64 212]) ?_ rfl ?_
         · obtain ⟨t0, t1, t2⟩ := row3_cells (show RowAt _ _ [.int .i64 0, .int .i64 0, .string ⟨#[]⟩] from ((HZ1.out.set 0 (.int .i64 0)).set 1 (.int .i64 0)).set 2 (.string ⟨#[]⟩))
           simp [results, Tryz.results97, go_sem, t0, t1, t2]; done
         · exact ⟨by rw [HR.out]; rfl, by go_grown⟩
     · have HR := Lh (show locateP m (bts s) = (Pl.zero, (walkFrom m 0 (init.map bts)).2) from by rw [HQ.out, HLP.out, if_neg HN.out, if_pos he])
       have h3 : ((walkFrom m 0 (init.map bts)).2 != 0) = true := by rw [bne_iff_ne]; exact he
       generalize (walkFrom m 0 (init.map bts)).2 = z at *
       clear he HLP HN
       go_wp2_with fail
       refine HW.out.mono ?_
       rintro e w2 ⟨rfl, rfl⟩
       go_wp2_with fail
       refine bodyPost_ret (v := .tuple #[.agg #[.int .i64 0, .int .i64 0, .string ⟨#[]⟩], .int .i64 z]) ?_ rfl ?_
       · obtain ⟨t0, t1, t2⟩ := row3_cells (show RowAt _ _ [.int .i64 0, .int .i64 0, .string ⟨#[]⟩] from ((HZ1.out.set 0 (.int .i64 0)).set 1 (.int .i64 0)).set 2 (.string ⟨#[]⟩))
         simp [results, Tryz.results97, go_sem, t0, t1, t2]; done
       · exact ⟨by rw [HR.out]; rfl, by go_grown⟩
 · have HR := Lh (show locateP m (bts s) = (Pl.zero, z) from by rw [locateP, hl, if_pos hz])
   have hq : (z != 0) = true := by rw [bne_iff_ne]; exact hz
   clear hl hz hG
   go_enter Tryz.func97, Tryz.ntmps97
   go_wp2_with fail
   refine (HS.out _).mono ?_
   rintro e w1 ⟨⟨a, cap, rfl, h1, h2, hn⟩, hb⟩
   have B1 := below_chain HB0.out hb HB0.out.size
   have HZ1 := Lh (HZ.out.below hb HZ.out.lt)
   obtain ⟨c0, c1, c2⟩ := row3_cells HZ1.out
   obtain ⟨f0, f1, f2⟩ := row3_free HZ1.out
   have lz := HZ1.out.lt
   clear hn hb h2
   go_wp2_with fail
   refine bodyPost_ret (v := .tuple #[.agg #[.int .i64 0, .int .i64 0, .string ⟨#[]⟩], .int .i64 z]) ?_ rfl ?_
   · obtain ⟨t0, t1, t2⟩ := row3_cells (show RowAt _ _ [.int .i64 0, .int .i64 0, .string ⟨#[]⟩] from ((HZ1.out.set 0 (.int .i64 0)).set 1 (.int .i64 0)).set 2 (.string ⟨#[]⟩))
     simp [results, Tryz.results97, go_sem, t0, t1, t2]; done
   · exact ⟨by rw [HR.out]; rfl, by go_grown⟩
end Go.Proofs.YtppdihpobokfnaaGreatDoor
