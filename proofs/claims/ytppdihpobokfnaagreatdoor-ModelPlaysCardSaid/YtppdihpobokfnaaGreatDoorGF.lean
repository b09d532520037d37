/- A part of a proof. -/
import Derived.Test.YtppdihpobokfnaaGreatDoorGW
set_option linter.unusedVariables false
set_option linter.unusedSimpArgs false
set_option maxRecDepth 100000
namespace Go.Proofs.YtppdihpobokfnaaGreatDoor
open Go.RowKit Go.Joins
set_option maxHeartbeats 1000000 in
theorem mbelow (R : Rp) (m : Md) (k inn : Nat) (w : World) (h : MdAt w R m) (hG : Good m) (hk : Dir m k) :
  Calls Tryz.prog 129 #[.pointer (some ⟨R.mb, 0, none⟩), .int .i64 (k : Int), .int .i64 (inn : Int)] w fun e w' => e = .returned (.bool (belowP m inn m.nodes.length k)) ∧ w' = w := by
 have HG := Lh hG
 have HM := Lh h
 obtain ⟨dep, ht⟩ := hG.tree
 have HT := Lh ht
 have HK := Lh hk
 clear hG h ht hk
 go_enter Tryz.func129, Tryz.ntmps129
 go_wp2_with fail
 go_loop [1] (fun aa => ∃ kk : Nat, aa = .int .i64 (kk : Int) ∧ Hid (Dir m kk ∧ belowP m inn m.nodes.length k = belowP m inn m.nodes.length kk)) (fun aa => less m dep (intOf aa).toNat)
 case atStart => exact ⟨k, rfl, HK.out, rfl⟩
 case round =>
  obtain ⟨kk, rfl, HW⟩ := hrel
  by_cases h1 : kk = inn
  · have h2 : ((kk : Int) != (inn : Int)) = false := by rw [bne_eq_false_iff_eq]; omega
    have h3 : ((kk : Int) == (inn : Int)) = true := by rw [beq_iff_eq]; omega
    have HR := Lh (show belowP m inn m.nodes.length k = true from by rw [HW.out.2, below_stop _ (fun h => h.1 h1), beq_iff_eq]; exact h1)
    clear h1
    go_wp2_with fail
    go_ret
    exact ⟨by rw [HR.out]; rfl, rfl⟩
  · have h2 : ((kk : Int) != (inn : Int)) = true := by rw [bne_iff_ne]; omega
    have h3 : ((kk : Int) == (inn : Int)) = false := by rw [beq_eq_false_iff_ne]; omega
    by_cases h4 : kk = 0
    · have HR := Lh (show belowP m inn m.nodes.length k = false from by rw [HW.out.2, below_stop _ (fun h => h.2 h4), beq_eq_false_iff_ne]; exact h1)
      have h5 : ((kk : Int) != 0) = false := by rw [bne_eq_false_iff_eq]; omega
      clear h1 h4
      go_wp2_with fail
      go_ret
      exact ⟨by rw [HR.out]; rfl, rfl⟩
    · have h5 : ((kk : Int) != 0) = true := by rw [bne_iff_ne]; omega
      obtain ⟨d, hd, hd2⟩ := HW.out.1
      have hl := HM.out.look hd (by have := HG.out.small hd; omega)
      obtain ⟨m0, m1, m2, m3, m4⟩ := HM.out.cells
      obtain ⟨e0, e1, e2, e3, e4, e5⟩ := (HM.out.nodes _ _ hd).cells
      have HN := Lh (show Dir m d.par ∧ belowP m inn m.nodes.length k = belowP m inn m.nodes.length d.par from ⟨HG.out.par _ _ hd hd2, HW.out.2.trans (below_step HG.out hd hd2 h1 h4)⟩)
      have HL := Lh (less_par hd (HT.out kk d hd hd2 h4) (HG.out.par _ _ hd hd2).there)
      clear h1 h4 hd
      go_wp2_with fail
      go_round
      case rel => exact ⟨d.par, rfl, HN.out⟩
      case measure => have h9 := HL.out; simpa [intOf] using h9
end Go.Proofs.YtppdihpobokfnaaGreatDoor
set_option linter.unusedVariables false
set_option linter.unusedSimpArgs false
set_option maxRecDepth 100000
namespace Go.Proofs.YtppdihpobokfnaaGreatDoor
open Go.RowKit Go.Joins
theorem mayP_neg {m : Md} {a b : Pl} {k : Nat} {d dd : Nd} (hak : a.node = (k : Int)) (hk : lookK m.nodes k = some d) (hn : b.node < 0) (hd : lookK m.nodes b.dir = some dd) : mayP m a b = if d.kind = 2 ∧ belowP m k m.nodes.length b.dir = true then 216 else if d.kind = 2 ∧ a.dir ≠ b.dir ∧ 100 ≤ dd.links then 215 else 0 := by
 rw [mayP]
 simp only [hak, Int.toNat_natCast, Md.get_look hk, Md.get_look hd, beq_iff_eq, if_pos hn]
theorem mayP_pos {m : Md} {a b : Pl} {k j : Nat} {d e : Nd} (hak : a.node = (k : Int)) (hk : lookK m.nodes k = some d) (hj : b.node = (j : Int)) (he : lookK m.nodes j = some e) : mayP m a b = if d.kind = 2 ∧ belowP m k m.nodes.length b.dir = true then 216 else if d.kind = 2 ∧ e.kind ≠ 2 then 212 else if d.kind ≠ 2 ∧ e.kind = 2 then 213 else if 0 < e.names.length then 214 else 0 := by
 rw [mayP]
 simp only [hak, hj, Int.toNat_natCast, Md.get_look hk, Md.get_look he, beq_iff_eq, beq_eq_false_iff_ne, if_neg (show ¬ ((j : Nat) : Int) < 0 from by omega)]
set_option maxHeartbeats 4000000 in
theorem mmay_neg (R : Rp) (m : Md) (a b : Pl) (k : Nat) (d dd : Nd) (w : World) (h : MdAt w R m) (hG : Good m) (hak : a.node = (k : Int)) (hk : lookK m.nodes k = some d) (hb : Dir m b.dir) (hdd : lookK m.nodes b.dir = some dd) (hbn : b.node < 0) :
  Calls Tryz.prog 101 #[.pointer (some ⟨R.mb, 0, none⟩), .agg #[.int .i64 (a.dir : Int), .int .i64 (k : Int), .string (tx a.name)], .agg #[.int .i64 (b.dir : Int), .int .i64 b.node, .string (tx b.name)]] w fun e w' => e = .returned (.int .i64 (mayP m a b)) ∧ Below w.heap.size w w' := by
 have HRS := Lh (mayP_neg hak hk hbn hdd)
 have HDD := Lh hdd
 clear hdd hak
 have HG := Lh hG
 have HM1 := Lh ((h.alloc (.cells #[.int .i64 (a.dir : Int), .int .i64 (k : Int), .string (tx a.name)] 118)).alloc (.cells #[.int .i64 (b.dir : Int), .int .i64 b.node, .string (tx b.name)] 118))
 have HB1 := Lh (((Below.refl w.heap.size w).alloc (Nat.le_refl _) (.cells #[.int .i64 (a.dir : Int), .int .i64 (k : Int), .string (tx a.name)] 118)).alloc (by simp) (.cells #[.int .i64 (b.dir : Int), .int .i64 b.node, .string (tx b.name)] 118))
 have HA1 := Lh ((rowAt_alloc w #[.int .i64 (a.dir : Int), .int .i64 (k : Int), .string (tx a.name)] 118).alloc (.cells #[.int .i64 (b.dir : Int), .int .i64 b.node, .string (tx b.name)] 118))
 have HC1 := Lh (rowAt_alloc (w.alloc (.cells #[.int .i64 (a.dir : Int), .int .i64 (k : Int), .string (tx a.name)] 118)) #[.int .i64 (b.dir : Int), .int .i64 b.node, .string (tx b.name)] 118)
 rw [show (w.alloc (.cells #[.int .i64 (a.dir : Int), .int .i64 (k : Int), .string (tx a.name)] 118)).heap.size = w.heap.size + 1 from by simp] at HC1
 have HK := Lh hk
 have HBL := Lh (fun W (hW : MdAt W R m) => mbelow R m b.dir k W hW hG hb)
 obtain ⟨bl, hbl⟩ : ∃ bl, bl = belowP m k m.nodes.length b.dir := ⟨_, rfl⟩
 rw [← hbl] at HBL HRS
 clear hbl hG h hk hb
 go_enter Tryz.func101, Tryz.ntmps101
 go_upto_region 1 with fail
 generalize (w.alloc (.cells #[.int .i64 (a.dir : Int), .int .i64 (k : Int), .string (tx a.name)] 118)).alloc (.cells #[.int .i64 (b.dir : Int), .int .i64 b.node, .string (tx b.name)] 118) = W1 at *
 obtain ⟨p0, p1, p2⟩ := row3_cells HA1.out
 obtain ⟨q0, q1, q2⟩ := row3_cells HC1.out
 obtain ⟨m0, m1, m2, m3, m4⟩ := HM1.out.cells
 have L1 := fun n => (HM1.out.drewN n).look HK.out (by have := HG.out.small (HK.out); omega)
 obtain ⟨e0, e1, e2, e3, e4, e5⟩ := (HM1.out.nodes _ _ (HK.out)).cells
 go_wp2_with fail
 go_quiet (fail)
 clear L1 m0 m1 m2 m3 m4 e0 e1 e2 e3 e4 e5 p0 p1 p2 q0 q1 q2
 have HM2 := Lh (HM1.out.drewN nq)
 have HB2 := Lh (HB1.out.trans (below_draws _ _ nq))
 have HA2 := Lh (HA1.out.same (w' := W1.drewN nq) rfl)
 have HC2 := Lh (HC1.out.same (w' := W1.drewN nq) rfl)
 clear HM1 HB1 HA1 HC1
 generalize W1.drewN nq = W2 at *
 obtain ⟨p0, p1, p2⟩ := row3_cells HA2.out
 obtain ⟨q0, q1, q2⟩ := row3_cells HC2.out
 by_cases hk2 : d.kind = 2
 · have hk3 : (d.kind == 2) = true := by rw [beq_iff_eq]; exact hk2
   go_wp2_with fail
   refine (HBL.out _ HM2.out).mono ?_
   rintro e9 W9 ⟨rfl, hw⟩
   have hw := hw.symm
   subst hw
   clear HBL
   cases bl with
   | true =>
    have HR := Lh (show mayP m a b = 216 from by rw [HRS.out, if_pos ⟨hk2, rfl⟩])
    go_wp2_with fail
    go_ret
    exact ⟨by rw [HR.out]; rfl, HB2.out⟩
   | false =>
    by_cases hab : a.dir = b.dir
    · have HR := Lh (show mayP m a b = 0 from by rw [HRS.out, if_neg (by simp), if_neg (fun h => h.2.1 hab)])
      have h5 : ((a.dir : Int) != (b.dir : Int)) = false := by rw [bne_eq_false_iff_eq]; omega
      obtain ⟨m0, m1, m2, m3, m4⟩ := HM2.out.cells
      have L1 := fun n => (HM2.out.drewN n).look HDD.out (by have := HG.out.small (HDD.out); omega)
      obtain ⟨e0, e1, e2, e3, e4, e5⟩ := (HM2.out.nodes _ _ (HDD.out)).cells
      go_wp2_with fail
      go_quiet (fail)
      clear L1 m0 m1 m2 m3 m4 e0 e1 e2 e3 e4 e5 p0 p1 p2 q0 q1 q2
      have HM3 := Lh (HM2.out.drewN nq)
      have HB3 := Lh (HB2.out.trans (below_draws _ _ nq))
      have HA3 := Lh (HA2.out.same (w' := W2.drewN nq) rfl)
      have HC3 := Lh (HC2.out.same (w' := W2.drewN nq) rfl)
      clear HM2 HB2 HA2 HC2
      generalize W2.drewN nq = W3 at *
      obtain ⟨p0, p1, p2⟩ := row3_cells HA3.out
      obtain ⟨q0, q1, q2⟩ := row3_cells HC3.out
      go_wp2_with fail
      go_ret
      exact ⟨by rw [HR.out]; rfl, HB3.out⟩
    · have h5 : ((a.dir : Int) != (b.dir : Int)) = true := by rw [bne_iff_ne]; omega
      obtain ⟨m0, m1, m2, m3, m4⟩ := HM2.out.cells
      have L1 := fun n => (HM2.out.drewN n).look HDD.out (by have := HG.out.small (HDD.out); omega)
      obtain ⟨e0, e1, e2, e3, e4, e5⟩ := (HM2.out.nodes _ _ (HDD.out)).cells
      go_wp2_with fail
      go_quiet (fail)
      clear L1 m0 m1 m2 m3 m4 e0 e1 e2 e3 e4 e5 p0 p1 p2 q0 q1 q2
      have HM3 := Lh (HM2.out.drewN nq)
      have HB3 := Lh (HB2.out.trans (below_draws _ _ nq))
      have HA3 := Lh (HA2.out.same (w' := W2.drewN nq) rfl)
      have HC3 := Lh (HC2.out.same (w' := W2.drewN nq) rfl)
      clear HM2 HB2 HA2 HC2
      generalize W2.drewN nq = W3 at *
      obtain ⟨p0, p1, p2⟩ := row3_cells HA3.out
      obtain ⟨q0, q1, q2⟩ := row3_cells HC3.out
      by_cases hl : 100 ≤ dd.links
      · have HR := Lh (show mayP m a b = 215 from by rw [HRS.out, if_neg (by simp), if_pos ⟨hk2, hab, hl⟩])
        go_wp2_with fail
        go_ret
        exact ⟨by rw [HR.out]; rfl, HB3.out⟩
      · have HR := Lh (show mayP m a b = 0 from by rw [HRS.out, if_neg (by simp), if_neg (fun h => hl h.2.2)])
        go_wp2_with fail
        go_ret
        exact ⟨by rw [HR.out]; rfl, HB3.out⟩
 · have hk3 : (d.kind == 2) = false := by rw [beq_eq_false_iff_ne]; exact hk2
   clear HBL
   have HR := Lh (show mayP m a b = 0 from by rw [HRS.out, if_neg (fun h => hk2 h.1), if_neg (fun h => hk2 h.1)])
   obtain ⟨m0, m1, m2, m3, m4⟩ := HM2.out.cells
   have L1 := fun n => (HM2.out.drewN n).look HDD.out (by have := HG.out.small (HDD.out); omega)
   obtain ⟨e0, e1, e2, e3, e4, e5⟩ := (HM2.out.nodes _ _ (HDD.out)).cells
   go_wp2_with fail
   go_quiet (fail)
   clear L1 m0 m1 m2 m3 m4 e0 e1 e2 e3 e4 e5 p0 p1 p2 q0 q1 q2
   have HM3 := Lh (HM2.out.drewN nq)
   have HB3 := Lh (HB2.out.trans (below_draws _ _ nq))
   have HA3 := Lh (HA2.out.same (w' := W2.drewN nq) rfl)
   have HC3 := Lh (HC2.out.same (w' := W2.drewN nq) rfl)
   clear HM2 HB2 HA2 HC2
   generalize W2.drewN nq = W3 at *
   obtain ⟨p0, p1, p2⟩ := row3_cells HA3.out
   obtain ⟨q0, q1, q2⟩ := row3_cells HC3.out
   go_wp2_with fail
   go_ret
   exact ⟨by rw [HR.out]; rfl, HB3.out⟩
set_option maxHeartbeats 4000000 in
theorem mmay_pos (R : Rp) (m : Md) (a b : Pl) (k j : Nat) (d e : Nd) (w : World) (h : MdAt w R m) (hG : Good m) (hak : a.node = (k : Int)) (hk : lookK m.nodes k = some d) (hb : Dir m b.dir) (hj : b.node = (j : Int)) (he : lookK m.nodes j = some e) :
  Calls Tryz.prog 101 #[.pointer (some ⟨R.mb, 0, none⟩), .agg #[.int .i64 (a.dir : Int), .int .i64 (k : Int), .string (tx a.name)], .agg #[.int .i64 (b.dir : Int), .int .i64 (j : Int), .string (tx b.name)]] w fun e w' => e = .returned (.int .i64 (mayP m a b)) ∧ Below w.heap.size w w' := by
 have HRS := Lh (mayP_pos hak hk hj he)
 have HJ := Lh he
 clear hj he hak
 have HG := Lh hG
 have HM1 := Lh ((h.alloc (.cells #[.int .i64 (a.dir : Int), .int .i64 (k : Int), .string (tx a.name)] 118)).alloc (.cells #[.int .i64 (b.dir : Int), .int .i64 (j : Int), .string (tx b.name)] 118))
 have HB1 := Lh (((Below.refl w.heap.size w).alloc (Nat.le_refl _) (.cells #[.int .i64 (a.dir : Int), .int .i64 (k : Int), .string (tx a.name)] 118)).alloc (by simp) (.cells #[.int .i64 (b.dir : Int), .int .i64 (j : Int), .string (tx b.name)] 118))
 have HA1 := Lh ((rowAt_alloc w #[.int .i64 (a.dir : Int), .int .i64 (k : Int), .string (tx a.name)] 118).alloc (.cells #[.int .i64 (b.dir : Int), .int .i64 (j : Int), .string (tx b.name)] 118))
 have HC1 := Lh (rowAt_alloc (w.alloc (.cells #[.int .i64 (a.dir : Int), .int .i64 (k : Int), .string (tx a.name)] 118)) #[.int .i64 (b.dir : Int), .int .i64 (j : Int), .string (tx b.name)] 118)
 rw [show (w.alloc (.cells #[.int .i64 (a.dir : Int), .int .i64 (k : Int), .string (tx a.name)] 118)).heap.size = w.heap.size + 1 from by simp] at HC1
 have HK := Lh hk
 have HBL := Lh (fun W (hW : MdAt W R m) => mbelow R m b.dir k W hW hG hb)
 obtain ⟨bl, hbl⟩ : ∃ bl, bl = belowP m k m.nodes.length b.dir := ⟨_, rfl⟩
 rw [← hbl] at HBL HRS
 clear hbl hG h hk hb
 go_enter Tryz.func101, Tryz.ntmps101
 go_upto_region 1 with fail
 generalize (w.alloc (.cells #[.int .i64 (a.dir : Int), .int .i64 (k : Int), .string (tx a.name)] 118)).alloc (.cells #[.int .i64 (b.dir : Int), .int .i64 (j : Int), .string (tx b.name)] 118) = W1 at *
 obtain ⟨p0, p1, p2⟩ := row3_cells HA1.out
 obtain ⟨q0, q1, q2⟩ := row3_cells HC1.out
 obtain ⟨m0, m1, m2, m3, m4⟩ := HM1.out.cells
 have L1 := fun n => (HM1.out.drewN n).look HK.out (by have := HG.out.small (HK.out); omega)
 obtain ⟨e0, e1, e2, e3, e4, e5⟩ := (HM1.out.nodes _ _ (HK.out)).cells
 go_wp2_with fail
 go_quiet (fail)
 clear L1 m0 m1 m2 m3 m4 e0 e1 e2 e3 e4 e5 p0 p1 p2 q0 q1 q2
 have HM2 := Lh (HM1.out.drewN nq)
 have HB2 := Lh (HB1.out.trans (below_draws _ _ nq))
 have HA2 := Lh (HA1.out.same (w' := W1.drewN nq) rfl)
 have HC2 := Lh (HC1.out.same (w' := W1.drewN nq) rfl)
 clear HM1 HB1 HA1 HC1
 generalize W1.drewN nq = W2 at *
 obtain ⟨p0, p1, p2⟩ := row3_cells HA2.out
 obtain ⟨q0, q1, q2⟩ := row3_cells HC2.out
 by_cases hk2 : d.kind = 2
 · have hk3 : (d.kind == 2) = true := by rw [beq_iff_eq]; exact hk2
   go_wp2_with fail
   refine (HBL.out _ HM2.out).mono ?_
   rintro e9 W9 ⟨rfl, hw⟩
   have hw := hw.symm
   subst hw
   clear HBL
   cases bl with
   | true =>
    have HR := Lh (show mayP m a b = 216 from by rw [HRS.out, if_pos ⟨hk2, rfl⟩])
    go_wp2_with fail
    go_ret
    exact ⟨by rw [HR.out]; rfl, HB2.out⟩
   | false =>
    obtain ⟨m0, m1, m2, m3, m4⟩ := HM2.out.cells
    have L1 := fun n => (HM2.out.drewN n).look HJ.out (by have := HG.out.small (HJ.out); omega)
    obtain ⟨e0, e1, e2, e3, e4, e5⟩ := (HM2.out.nodes _ _ (HJ.out)).cells
    go_wp2_with fail
    go_quiet (fail)
    clear L1 m0 m1 m2 m3 m4 e0 e1 e2 e3 e4 e5 p0 p1 p2 q0 q1 q2
    have HM3 := Lh (HM2.out.drewN nq)
    have HB3 := Lh (HB2.out.trans (below_draws _ _ nq))
    have HA3 := Lh (HA2.out.same (w' := W2.drewN nq) rfl)
    have HC3 := Lh (HC2.out.same (w' := W2.drewN nq) rfl)
    clear HM2 HB2 HA2 HC2
    generalize W2.drewN nq = W3 at *
    obtain ⟨p0, p1, p2⟩ := row3_cells HA3.out
    obtain ⟨q0, q1, q2⟩ := row3_cells HC3.out
    obtain ⟨e0, e1, e2, e3, e4, e5⟩ := (HM3.out.nodes _ _ HJ.out).cells
    by_cases he2 : e.kind = 2
    · have he3 : (e.kind == 2) = true := by rw [beq_iff_eq]; exact he2
      have he4 : (e.kind != 2) = false := by rw [bne_eq_false_iff_eq]; exact he2
      have L2 := (HM3.out.nodes _ _ HJ.out).many 3
      rw [if_pos he2] at L2 e4
      by_cases hl : 0 < (e.names.length : Int)
      · have HR := Lh (show mayP m a b = 214 from by rw [HRS.out, if_neg (by simp), if_neg (fun h => h.2 he2), if_neg (fun h => h.1 hk2), if_pos (by omega)])
        go_wp2_with fail
        go_ret
        exact ⟨by rw [HR.out]; rfl, HB3.out⟩
      · have HR := Lh (show mayP m a b = 0 from by rw [HRS.out, if_neg (by simp), if_neg (fun h => h.2 he2), if_neg (fun h => h.1 hk2), if_neg (by omega)])
        go_wp2_with fail
        go_ret
        exact ⟨by rw [HR.out]; rfl, HB3.out⟩
    · have he3 : (e.kind == 2) = false := by rw [beq_eq_false_iff_ne]; exact he2
      have he4 : (e.kind != 2) = true := by rw [bne_iff_ne]; exact he2
      have HR := Lh (show mayP m a b = 212 from by rw [HRS.out, if_neg (by simp), if_pos ⟨hk2, he2⟩])
      go_wp2_with fail
      go_ret
      exact ⟨by rw [HR.out]; rfl, HB3.out⟩
 · have hk3 : (d.kind == 2) = false := by rw [beq_eq_false_iff_ne]; exact hk2
   clear HBL
   obtain ⟨m0, m1, m2, m3, m4⟩ := HM2.out.cells
   have L1 := fun n => (HM2.out.drewN n).look HJ.out (by have := HG.out.small (HJ.out); omega)
   obtain ⟨e0, e1, e2, e3, e4, e5⟩ := (HM2.out.nodes _ _ (HJ.out)).cells
   go_wp2_with fail
   go_quiet (fail)
   clear L1 m0 m1 m2 m3 m4 e0 e1 e2 e3 e4 e5 p0 p1 p2 q0 q1 q2
   have HM3 := Lh (HM2.out.drewN nq)
   have HB3 := Lh (HB2.out.trans (below_draws _ _ nq))
   have HA3 := Lh (HA2.out.same (w' := W2.drewN nq) rfl)
   have HC3 := Lh (HC2.out.same (w' := W2.drewN nq) rfl)
   clear HM2 HB2 HA2 HC2
   generalize W2.drewN nq = W3 at *
   obtain ⟨p0, p1, p2⟩ := row3_cells HA3.out
   obtain ⟨q0, q1, q2⟩ := row3_cells HC3.out
   obtain ⟨e0, e1, e2, e3, e4, e5⟩ := (HM3.out.nodes _ _ HJ.out).cells
   by_cases he2 : e.kind = 2
   · have he3 : (e.kind == 2) = true := by rw [beq_iff_eq]; exact he2
     have he4 : (e.kind != 2) = false := by rw [bne_eq_false_iff_eq]; exact he2
     have HR := Lh (show mayP m a b = 213 from by rw [HRS.out, if_neg (fun h => hk2 h.1), if_neg (fun h => hk2 h.1), if_pos ⟨hk2, he2⟩])
     go_wp2_with fail
     go_ret
     exact ⟨by rw [HR.out]; rfl, HB3.out⟩
   · have he3 : (e.kind == 2) = false := by rw [beq_eq_false_iff_ne]; exact he2
     have he4 : (e.kind != 2) = true := by rw [bne_iff_ne]; exact he2
     have HR := Lh (show mayP m a b = 0 from by rw [HRS.out, if_neg (fun h => hk2 h.1), if_neg (fun h => hk2 h.1), if_neg (fun h => he2 h.2), HG.out.file _ _ HJ.out he2]; rfl)
     go_wp2_with fail
     go_ret
     exact ⟨by rw [HR.out]; rfl, HB3.out⟩
end Go.Proofs.YtppdihpobokfnaaGreatDoor
