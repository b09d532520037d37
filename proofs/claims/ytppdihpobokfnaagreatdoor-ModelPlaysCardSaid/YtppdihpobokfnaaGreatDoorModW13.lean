/- A part of a proof. -/
import Derived.Test.YtppdihpobokfnaaGreatDoorModW9
set_option linter.unusedVariables false
set_option linter.unusedSimpArgs false
set_option maxRecDepth 100000
namespace Go.Proofs.YtppdihpobokfnaaGreatDoor
open Go.RowKit Go.Joins
theorem look_set {m : Md} {k : Nat} {f : Nd → Nd} {d : Nd} (h : lookK m.nodes k = some d) : lookK (m.set k f).nodes k = some (f d) := lookK_same h
theorem look_set_ne {m : Md} {j k : Nat} {f : Nd → Nd} (h : j ≠ k) : lookK (m.set k f).nodes j = lookK m.nodes j := lookK_other h
theorem look_unname {m : Md} {k : Nat} {s : Bs} {d : Nd} (h : lookK m.nodes k = some d) : lookK (unnameP m k s).nodes k = some { d with names := delN d.names s } := look_set h
theorem look_unname_ne {m : Md} {j k : Nat} {s : Bs} (h : j ≠ k) : lookK (unnameP m k s).nodes j = lookK m.nodes j := look_set_ne h
theorem look_links {m : Md} {k : Nat} {x : Int} {d : Nd} (h : lookK m.nodes k = some d) : lookK (linksP m k x).nodes k = some { d with links := d.links + x } := look_set h
theorem look_links_ne {m : Md} {j k : Nat} {x : Int} (h : j ≠ k) : lookK (linksP m k x).nodes j = lookK m.nodes j := look_set_ne h
theorem sub_one (x : Int) : x - 1 = x + -1 := by omega
set_option maxHeartbeats 8000000 in
theorem mdrop (R : Rp) (m : Md) (a : Pl) (k : Nat) (d dd : Nd) (w : World) (h : MdAt w R m) (hG : Good m) (hak : a.node = (k : Int)) (hk : lookK m.nodes k = some d) (hd : lookK m.nodes a.dir = some dd) (hd2 : dd.kind = 2) (hne : k ≠ a.dir) (hs : a.name.length ≤ 1000000) :
  Calls Tryz.prog 99 #[.pointer (some ⟨R.mb, 0, none⟩), .agg #[.int .i64 (a.dir : Int), .int .i64 (k : Int), .string (tx a.name)]] w (StepR w R (dropP m a)) := by
 have HM1 := h.alloc (.cells #[.int .i64 (a.dir : Int), .int .i64 (k : Int), .string (tx a.name)] 118)
 have HI1 := (Mid.start h).alloc (.cells #[.int .i64 (a.dir : Int), .int .i64 (k : Int), .string (tx a.name)] 118)
 have HA1 := rowAt_alloc w #[.int .i64 (a.dir : Int), .int .i64 (k : Int), .string (tx a.name)] 118
 have HNA := Lh (h.fresh (Nat.le_refl w.heap.size))
 have HG := Lh hG
 have HKZ := Lh (hG.small hk)
 have HDZ := Lh (hG.small hd)
 have hlk := hG.links k d hk
 have hld := hG.links a.dir dd hd
 have HK := Lh hk
 have HD := Lh (And.intro hd hd2)
 have HNE := Lh hne
 have HKT := Lh (key_txt (s := tx a.name) (by rw [tx_size]; omega))
 have hw1 : IntKind.i64.wrap (d.links - 1) = d.links - 1 := IntWalk.i64_in _ (by omega)
 have hw2 : IntKind.i64.wrap (dd.links - 1) = dd.links - 1 := IntWalk.i64_in _ (by omega)
 have HDP := Lh (show dropP m a = goneP (if d.kind = 2 then linksP ((linksP (unnameP m a.dir a.name) k (-1)).set k fun n => { n with links := 0 }) a.dir (-1) else linksP (unnameP m a.dir a.name) k (-1)) k from by rw [dropP]; simp only [hak, Int.toNat_natCast, Md.get_look hk])
 clear hG hd hk hd2 h hs hne hak
 go_enter Tryz.func99, Tryz.ntmps99
 go_upto_region 1 with fail
 generalize w.alloc (.cells #[.int .i64 (a.dir : Int), .int .i64 (k : Int), .string (tx a.name)] 118) = W1 at *
 have HI1H := Lh HI1
 have HA1H := Lh HA1
 obtain ⟨m0, m1, m2, m3, m4⟩ := HM1.cells
 obtain ⟨p0, p1, p2⟩ := row3_cells HA1
 have L1 := fun n => (HM1.drewN n).look HK.out (by have := HKZ.out; omega)
 clear HM1 HI1 HA1
 go_quiet (fail)
 clear L1 m0 m1 m2 m3 m4 p0 p1 p2
 have HI2 := Lh (HI1H.out.drewN nq)
 have HA2 := Lh (HA1H.out.same (w' := W1.drewN nq) rfl)
 clear HI1H HA1H
 generalize W1.drewN nq = W2 at *
 obtain ⟨m0, m1, m2, m3, m4⟩ := HI2.out.md.cells
 obtain ⟨p0, p1, p2⟩ := row3_cells HA2.out
 have hl := HI2.out.md.drew.look HD.out.1 (by have := HDZ.out; omega)
 obtain ⟨e0, e1, e2, e3, e4, e5⟩ := (HI2.out.md.nodes _ _ HD.out.1).cells
 rw [if_pos HD.out.2] at e4
 have HN2 := Lh (HI2.out.md.drew.nodes _ _ HD.out.1)
 obtain ⟨g, hg⟩ : ∃ g, g = R.g k := ⟨_, rfl⟩
 have HGG := Lh hg
 rw [← hg]
 clear hg
 go_wp2_with fail
 go_still_tail 12, (by kernel_rfl)
 change wpList _ _ _ _ _ (World.drew _)
 go_upto_region 3 with (at_delete; refine wpList_delete_own _ rfl _ _ 77 9 rfl 3 keyed_str Tryz.underlying77 (plainElem (H := Value) Tryz.prog 3) (R.nb a.dir) dd.names.length (namD dd.names) rfl (HN2.out.names HD.out.2).2 _ _ rfl HKT.out ?_; intro W3 hown3 hturn3; have HT3 := Lh (And.intro hown3 hturn3); clear hown3 hturn3)
 have hM3 : Mid W2.drew R.L W3 R (unnameP m a.dir a.name) := Mid.named HI2.out.md.drew HD.out.1 HD.out.2 (ns := delN dd.names a.name) (n := dd.names.length) rfl (by have := HT3.out.1; rw [namD_del, tx_bts] at this; exact this) HT3.out.2.grown
 have HI3 := Lh ((HI2.out.drewN 1).then hM3)
 have HA3 := Lh (hM3.row HA2.out.drew HNA.out).1
 clear hM3 HT3 HN2 HI2 HA2 hl m0 m1 m2 m3 m4 p0 p1 p2 e0 e1 e2 e3 e4 e5
 have hk3 : lookK (unnameP m a.dir a.name).nodes k = some d := (look_unname_ne HNE.out).trans HK.out
 have hd3 : lookK (unnameP m a.dir a.name).nodes a.dir = some { dd with names := delN dd.names a.name } := look_unname HD.out.1
 have HK3 := Lh hk3
 have HD3 := Lh hd3
 obtain ⟨e0, e1, e2, e3, e4, e5⟩ := (HI3.out.md.nodes _ _ hk3).cells
 have e6 := (HI3.out.md.nodes _ _ hk3).free (i := 1) (by omega)
 have hM4 : Mid W3 R.L (W3.setCell ⟨R.g k, 1, none⟩ (.int .i64 (d.links - 1))) R (linksP (unnameP m a.dir a.name) k (-1)) := Mid.put HI3.out.md hk3 1 _ (by rw [sub_one]; rfl) rfl rfl rfl
 have HI4 := Lh (HI3.out.then hM4)
 have HA4 := Lh (hM4.row HA3.out HNA.out).1
 rw [← HGG.out] at e0 e1 e2 e3 e4 e5 e6 HI4 HA4
 clear hM4 hk3 hd3
 go_upto_region 4 with fail
 generalize W3.setCell ⟨g, 1, none⟩ (.int .i64 (d.links - 1)) = W4 at *
 clear e0 e1 e2 e3 e4 e5 e6 HI3 HA3
 have hk4 : lookK (linksP (unnameP m a.dir a.name) k (-1)).nodes k = some { d with links := d.links + -1 } := look_links HK3.out
 have HK4 := Lh hk4
 obtain ⟨e0, e1, e2, e3, e4, e5⟩ := (HI4.out.md.nodes _ _ hk4).cells
 have e6 := (HI4.out.md.nodes _ _ hk4).free (i := 1) (by omega)
 by_cases hk2 : d.kind = 2
 · have hM5 : Mid W4 R.L (W4.setCell ⟨R.g k, 1, none⟩ (.int .i64 0)) R ((linksP (unnameP m a.dir a.name) k (-1)).set k fun n => { n with links := 0 }) := Mid.put HI4.out.md hk4 1 _ rfl rfl rfl rfl
   have HI5 := Lh (HI4.out.then hM5)
   have HA5 := Lh (hM5.row HA4.out HNA.out).1
   rw [← HGG.out] at e0 e1 e2 e3 e4 e5 e6 HI5 HA5
   rw [show ({ d with links := d.links + -1 } : Nd).kind = 2 from hk2] at e0
   have HDP : Hid (dropP m a = goneP (linksP ((linksP (unnameP m a.dir a.name) k (-1)).set k fun n => { n with links := 0 }) a.dir (-1)) k) := by
    have h9 := HDP.out
    rw [if_pos hk2] at h9
    exact h9
   clear hM5 hk4 hk2
   go_upto_region 6 with fail
   generalize W4.setCell ⟨g, 1, none⟩ (.int .i64 0) = W5 at *
   clear e0 e1 e2 e3 e4 e5 e6 HI4 HA4
   have hk5 : lookK ((linksP (unnameP m a.dir a.name) k (-1)).set k fun n => { n with links := 0 }).nodes k = some { d with links := 0 } := look_set (d := { d with links := d.links + -1 }) HK4.out
   have hd5 : lookK ((linksP (unnameP m a.dir a.name) k (-1)).set k fun n => { n with links := 0 }).nodes a.dir = some { dd with names := delN dd.names a.name } := (look_set_ne (Ne.symm HNE.out)).trans ((look_links_ne (Ne.symm HNE.out)).trans HD3.out)
   have HK5 := Lh hk5
   have HD5 := Lh hd5
   obtain ⟨m0, m1, m2, m3, m4⟩ := HI5.out.md.cells
   obtain ⟨p0, p1, p2⟩ := row3_cells HA5.out
   have hl := HI5.out.md.drew.look hd5 (by have := HDZ.out; omega)
   obtain ⟨e0, e1, e2, e3, e4, e5⟩ := (HI5.out.md.drew.nodes _ _ hd5).cells
   have e6 := (HI5.out.md.drew.nodes _ _ hd5).free (i := 1) (by omega)
   have hM6 : Mid W5.drew R.L (W5.drew.setCell ⟨R.g a.dir, 1, none⟩ (.int .i64 (dd.links - 1))) R (linksP ((linksP (unnameP m a.dir a.name) k (-1)).set k fun n => { n with links := 0 }) a.dir (-1)) := Mid.put HI5.out.md.drew hd5 1 _ (by rw [sub_one]; rfl) rfl rfl rfl
   have HI6 := Lh ((HI5.out.drewN 1).then hM6)
   have HA6 := Lh (hM6.row HA5.out.drew HNA.out).1
   have hl5 := HI5.out.md.look hd5 (by have := HDZ.out; omega)
   obtain ⟨c0, c1, c2, c3, c4, c5⟩ := (HI5.out.md.nodes _ _ hd5).cells
   clear hM6 hk5 hd5
   go_still_tail 13, (by kernel_rfl)
   change wpList _ _ _ _ _ (World.drew _)
   generalize W5.drew = W5d at *
   go_upto_region 7 with fail
   generalize W5d.setCell ⟨R.g a.dir, 1, none⟩ (.int .i64 (dd.links - 1)) = W6 at *
   clear e0 e1 e2 e3 e4 e5 e6 c0 c1 c2 c3 c4 c5 hl hl5 m0 m1 m2 m3 m4 p0 p1 p2 HI5 HA5
   have hk6 : lookK (linksP ((linksP (unnameP m a.dir a.name) k (-1)).set k fun n => { n with links := 0 }) a.dir (-1)).nodes k = some { d with links := 0 } := (look_links_ne HNE.out).trans HK5.out
   have HGo := Lh (mgone R (linksP ((linksP (unnameP m a.dir a.name) k (-1)).set k fun n => { n with links := 0 }) a.dir (-1)) k _ _ HI6.out.md hk6 (by have := HKZ.out; omega))
   obtain ⟨p0, p1, p2⟩ := row3_cells HA6.out
   go_wp2_with fail
   refine HGo.out.mono ?_
   rintro e W9 ⟨rfl, R', hM, hmb⟩
   have HF := Lh (And.intro (HI6.out.then hM) hmb)
   clear hM hmb HGo
   go_wp2_with fail
   go_end0
   unfold StepR
   rw [HDP.out]
   exact ⟨rfl, R', HF.out.1, HF.out.2⟩
 · have hk3' : (d.kind == 2) = false := by rw [beq_eq_false_iff_ne]; exact hk2
   have HDP : Hid (dropP m a = goneP (linksP (unnameP m a.dir a.name) k (-1)) k) := by
    have h9 := HDP.out
    rw [if_neg hk2] at h9
    exact h9
   rw [← HGG.out] at e0 e1 e2 e3 e4 e5 e6
   clear hk2
   have HGo := Lh (mgone R (linksP (unnameP m a.dir a.name) k (-1)) k _ _ HI4.out.md hk4 (by have := HKZ.out; omega))
   obtain ⟨p0, p1, p2⟩ := row3_cells HA4.out
   go_wp2_with fail
   refine HGo.out.mono ?_
   rintro e W9 ⟨rfl, R', hM, hmb⟩
   have HF := Lh (And.intro (HI4.out.then hM) hmb)
   clear hM hmb HGo
   go_wp2_with fail
   go_end0
   unfold StepR
   rw [HDP.out]
   exact ⟨rfl, R', HF.out.1, HF.out.2⟩
end Go.Proofs.YtppdihpobokfnaaGreatDoor
