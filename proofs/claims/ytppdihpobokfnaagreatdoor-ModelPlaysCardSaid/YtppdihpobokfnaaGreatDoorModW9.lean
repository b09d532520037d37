/- A part of a proof. -/
import Derived.Test.YtppdihpobokfnaaGreatDoorModW8
set_option linter.unusedVariables false
set_option linter.unusedSimpArgs false
set_option maxRecDepth 100000
namespace Go.Proofs.YtppdihpobokfnaaGreatDoor
open Go.RowKit Go.Joins
def FreshR (w : World) (R : Rp) (r : (Nat × Int) × Md) (e : Ending) (w' : World) : Prop := e = .returned (.tuple #[.int .i64 (r.1.1 : Int), .int .i64 r.1.2]) ∧ ∃ R', Mid w R.L w' R' r.2 ∧ R'.mb = R.mb
theorem below_set {w W : World} {B b i : Nat} {v : Value} (h : Below B w W) (hb : B ≤ b) : Below B w (W.setCell ⟨b, i, none⟩ v) := h.setCell hb _
set_option maxHeartbeats 8000000 in
theorem mfresh (R : Rp) (m : Md) (a : Pl) (kind : Int) (w : World) (h : MdAt w R m) (hG : Good m) (hd : Dir m a.dir) (hk : kind = 1 ∨ kind = 2) (hs : a.name.length ≤ 1000000) :
  Calls Tryz.prog 91 #[.pointer (some ⟨R.mb, 0, none⟩), .agg #[.int .i64 (a.dir : Int), .int .i64 a.node, .string (tx a.name)], .int .i64 kind] w (FreshR w R (freshP m a kind)) := by
 have HM1 := h.alloc (.cells #[.int .i64 (a.dir : Int), .int .i64 a.node, .string (tx a.name)] 118)
 have HI1 := (Mid.start h).alloc (.cells #[.int .i64 (a.dir : Int), .int .i64 a.node, .string (tx a.name)] 118)
 have HA1 := rowAt_alloc w #[.int .i64 (a.dir : Int), .int .i64 a.node, .string (tx a.name)] 118
 have HNA := Lh (h.fresh (Nat.le_refl w.heap.size))
 have HG := Lh hG
 have HD := Lh hd
 have HS := Lh hs
 have hn1 : (m.next : Int) ≤ 1000000 := by have := hG.next; omega
 have hnx : IntKind.i64.wrap ((m.next : Int) + 1) = (m.next : Int) + 1 := IntWalk.i64_in _ (by omega)
 clear hG hd h hs
 go_enter Tryz.func91, Tryz.ntmps91
 go_upto_region 1 with fail
 generalize w.alloc (.cells #[.int .i64 (a.dir : Int), .int .i64 a.node, .string (tx a.name)] 118) = W1 at *
 have HM1H := Lh HM1
 have HI1H := Lh HI1
 have HA1H := Lh HA1
 clear HM1 HI1 HA1
 obtain ⟨m0, m1, m2, m3, m4⟩ := HM1H.out.cells
 have L1 := fun n => (HM1H.out.drewN n).many 3
 go_quiet (fail)
 clear L1 m0 m1 m2 m3 m4
 have HM2 := Lh (HM1H.out.drewN nq)
 have HI2 := Lh (HI1H.out.drewN nq)
 have HA2 := Lh (HA1H.out.same (w' := W1.drewN nq) rfl)
 clear HM1H HI1H HA1H
 generalize W1.drewN nq = W2 at *
 by_cases hl : m.limit ≤ m.nodes.length
 · have hl1 : (m.limit : Int) ≤ (m.nodes.length : Int) := by omega
   have HR := Lh (show freshP m a kind = ((0, 171), m) from by rw [freshP, if_pos hl])
   clear hl
   go_wp2_with fail
   go_ret2
   unfold FreshR
   rw [HR.out]
   exact ⟨rfl, R, HI2.out, rfl⟩
 · have hl1 : ¬ (m.limit : Int) ≤ (m.nodes.length : Int) := by omega
   have HR := Lh (show freshP m a kind = ((m.next, 0), ({ m with next := m.next + 1, nodes := m.nodes ++ [(m.next, freshN kind a.dir)] } : Md).set a.dir fun n => { n with names := putN n.names a.name m.next }) from by rw [freshP, if_neg hl])
   clear hl
   obtain ⟨m0, m1, m2, m3, m4⟩ := HM2.out.cells
   have fm := HM2.out.free (i := 3) (by omega)
   have HI3 := Lh (HI2.out.then (Mid.nexted HM2.out (m.next + 1)))
   have HA3 := Lh (HA2.out.other ⟨R.mb, 3, none⟩ (.int .i64 ((m.next + 1 : Nat) : Int)) (fun e => by have e : w.heap.size = R.mb := e; have h1 := HM2.out.lm; rw [← e, HNA.out] at h1; cases h1))
   rw [show ((m.next + 1 : Nat) : Int) = (m.next : Int) + 1 from by omega] at HI3 HA3
   go_upto_region 5 with fail
   generalize W2.setCell ⟨R.mb, 3, none⟩ (.int .i64 ((m.next : Int) + 1)) = W3 at *
   clear fm m0 m1 m2 m3 m4 HM2 HI2 HA2
   obtain ⟨p0, p1, p2⟩ := row3_cells HA3.out
   have HRW := rowAt_alloc W3 #[.int .i64 kind, .int .i64 1, .bool false, .slice none 0 0, .map none, .int .i64 (a.dir : Int)] 80
   have HB4 := (Below.refl W3.heap.size W3).alloc (Nat.le_refl _) (.cells #[.int .i64 kind, .int .i64 1, .bool false, .slice none 0 0, .map none, .int .i64 (a.dir : Int)] 80)
   go_upto_region 6 with fail
   generalize W3.alloc (.cells #[.int .i64 kind, .int .i64 1, .bool false, .slice none 0 0, .map none, .int .i64 (a.dir : Int)] 80) = W4 at *
   have HRWH := Lh HRW
   have HB4H := Lh HB4
   have hz4 := HRW.lt
   clear HRW HB4 p0 p1 p2
   rcases hk with rfl | rfl
   · have BB := HB4H.out
     have HRF := HRWH.out
     have HRZ := hz4
     have HM6 := Lh (HI3.out.md.below BB (Nat.le_refl _))
     have HA6 := Lh (HA3.out.below BB HA3.out.lt)
     obtain ⟨m0, m1, m2, m3, m4⟩ := HM6.out.cells
     have HK := Lh (key_nat (k := m.next) (by omega))
     have HLL := Lh (show R.lay.length < maxLen from by have h1 := HM6.out.len; have h2 := HG.out.len; unfold maxLen; simp at h1; omega)
     go_upto_region 8 with fail
     go_wp2_with (at_mapUpdate; refine wpList_mapUpdate_in _ rfl _ _ _ 63 rfl 3 76 keyed_int Tryz.underlying63 heldV R.nm R.lay.length (layD R.lay) rfl HM6.out.map HLL.out _ _ _ rfl rfl HK.out (.held (ptrTo W3.heap.size)) [] rfl ?_; intro W7 hown7 hturn7; have HT7 := Lh (And.intro hown7 hturn7); clear hown7 hturn7)
     clear m0 m1 m2 m3 m4
     have HI7 := Lh (HI3.out.then (Mid.born (x := freshN 1 a.dir) HM6.out BB (fun p hp => HG.out.lt p hp) ⟨rfl, rfl⟩ (fun b hb => HI3.out.md.fresh hb) (Nat.le_refl _) HRZ (nb := none) (fun b hb => by cases hb) HRF (by rw [if_neg (by simp [freshN])]) HT7.out.1 HT7.out.2.grown))
     have HA7 := Lh (HA6.out.same (HT7.out.2.grown.block _ HA6.out.lt (fun e => by have e := Option.some.inj e; have h1 := HM6.out.ln; rw [← e, HNA.out] at h1; cases h1)))
     obtain ⟨d0, hd0, hk2⟩ := HD.out
     have hd7 : lookK (m.nodes ++ [(m.next, freshN 1 a.dir)]) a.dir = some d0 := by rw [lookK_append, hd0]
     have hds := HG.out.small hd0
     have HI7 := Lh HI7
     obtain ⟨R', hR'⟩ : ∃ R', R' = R.more m.next W3.heap.size none := ⟨_, rfl⟩
     have hmb : R'.mb = R.mb := by rw [hR']; rfl
     rw [← hR'] at HI7
     have HMB := Lh hmb
     have HD7 := Lh (And.intro hd7 hk2)
     have HNL := Lh (show d0.names.length < maxLen from by have := HG.out.nlen _ _ hd0; unfold maxLen; omega)
     obtain ⟨m0, m1, m2, m3, m4⟩ := HI7.out.md.cells
     rw [hmb] at m0 m1 m2 m3 m4
     have hl := HI7.out.md.drew.look HD7.out.1 (by omega)
     have HN7 := Lh (HI7.out.md.drew.nodes _ _ HD7.out.1)
     obtain ⟨e0, e1, e2, e3, e4, e5⟩ := (HI7.out.md.nodes _ _ HD7.out.1).cells
     rw [if_pos hk2] at e4
     obtain ⟨p0, p1, p2⟩ := row3_cells HA7.out
     have HKT := Lh (key_txt (s := tx a.name) (by rw [tx_size]; have := HS.out; omega))
     clear hR' hmb hd0 hd7 hk2 HD HM6 HT7
     go_still_tail 13, (by kernel_rfl)
     change wpList _ _ _ _ _ (World.drew _)
     go_wp2_with (at_mapUpdate; refine wpList_mapUpdate_in _ rfl _ _ _ 77 rfl 9 3 keyed_str Tryz.underlying77 (plainElem (H := Value) Tryz.prog 3) (R'.nb a.dir) d0.names.length (namD d0.names) rfl (HN7.out.names HD7.out.2).2 HNL.out _ _ _ rfl rfl HKT.out (.lit (.int .i64 (m.next : Int))) [] (plainElem_int Tryz.underlying3 (WalkArith.wf_i64 (by omega))) ?_; intro W8 hown8 hturn8; have HT8 := Lh (And.intro hown8 hturn8); clear hown8 hturn8)
     go_wp2_with fail
     go_ret2
     unfold FreshR
     rw [HR.out]
     refine ⟨rfl, R', ?_, HMB.out⟩
     have ho := HT8.out.1
     rw [namD_put, tx_bts] at ho
     exact (HI7.out.drewN 1).then (Mid.named (HI7.out.md.drewN 1) HD7.out.1 HD7.out.2 rfl ho HT8.out.2.grown)
   · have hmm := @run_makeMap Tryz.prog
     have e1 := HRWH.out.frozen 1 (by simp)
     have e4 := HRWH.out.frozen 4 (by simp)
     have c1 : W4.cell? ⟨W3.heap.size, 1, none⟩ = some (.int .i64 1) := HRWH.out.cell 1 (by simp)
     have c4 : W4.cell? ⟨W3.heap.size, 4, none⟩ = some (.map none) := HRWH.out.cell 4 (by simp)
     have hz34 := HB4H.out.size
     have HRS := ((HRWH.out.set 1 (.int .i64 2)).set 4 (.map (some W4.heap.size))).alloc (.map #[] 0)
     have HBS := (below_set (i := 4) (v := .map (some W4.heap.size)) (below_set (i := 1) (v := .int .i64 2) HB4H.out (Nat.le_refl _)) (Nat.le_refl _)).alloc (by simp; omega) (.map #[] 0)
     have HOS := World.ownsMap_made ((W4.setCell ⟨W3.heap.size, 1, none⟩ (.int .i64 2)).setCell ⟨W3.heap.size, 4, none⟩ (.map (some W4.heap.size))) Tryz.prog 9 (plainElem (H := Value) Tryz.prog 3)
     rw [show (((W4.setCell ⟨W3.heap.size, 1, none⟩ (.int .i64 2)).setCell ⟨W3.heap.size, 4, none⟩ (.map (some W4.heap.size)))).heap.size = W4.heap.size from by simp] at HOS
     have hz6 : (((W4.setCell ⟨W3.heap.size, 1, none⟩ (.int .i64 2)).setCell ⟨W3.heap.size, 4, none⟩ (.map (some W4.heap.size))).alloc (.map #[] 0)).heap.size = W4.heap.size + 1 := by simp
     go_upto_region 8 with fail
     generalize ((W4.setCell ⟨W3.heap.size, 1, none⟩ (.int .i64 2)).setCell ⟨W3.heap.size, 4, none⟩ (.map (some W4.heap.size))).alloc (.map #[] 0) = W6 at *
     have HRSH := Lh HRS
     have HBSH := Lh HBS
     have HOSH := Lh HOS
     have HZ6 := Lh hz6
     clear HRS HBS HOS hz6 e1 e4 c1 c4 hmm
     have BB := HBSH.out
     have HRF := HRSH.out
     have HRZ : W3.heap.size < W6.heap.size := by have := HZ6.out; omega
     have HM6 := Lh (HI3.out.md.below BB (Nat.le_refl _))
     have HA6 := Lh (HA3.out.below BB HA3.out.lt)
     obtain ⟨m0, m1, m2, m3, m4⟩ := HM6.out.cells
     have HK := Lh (key_nat (k := m.next) (by omega))
     have HLL := Lh (show R.lay.length < maxLen from by have h1 := HM6.out.len; have h2 := HG.out.len; unfold maxLen; simp at h1; omega)
     go_wp2_with (at_mapUpdate; refine wpList_mapUpdate_in _ rfl _ _ _ 63 rfl 3 76 keyed_int Tryz.underlying63 heldV R.nm R.lay.length (layD R.lay) rfl HM6.out.map HLL.out _ _ _ rfl rfl HK.out (.held (ptrTo W3.heap.size)) [] rfl ?_; intro W7 hown7 hturn7; have HT7 := Lh (And.intro hown7 hturn7); clear hown7 hturn7)
     clear m0 m1 m2 m3 m4
     have HI7 := Lh (HI3.out.then (Mid.born (x := freshN 2 a.dir) HM6.out BB (fun p hp => HG.out.lt p hp) ⟨rfl, rfl⟩ (fun b hb => HI3.out.md.fresh hb) (Nat.le_refl _) HRZ (nb := some W4.heap.size) (fun b hb => by cases hb; exact ⟨hz34, by have := HZ6.out; omega, by omega⟩) HRF (by rw [if_pos (show (freshN 2 a.dir).kind = 2 from rfl)]; exact ⟨_, rfl, HOSH.out⟩) HT7.out.1 HT7.out.2.grown))
     have HA7 := Lh (HA6.out.same (HT7.out.2.grown.block _ HA6.out.lt (fun e => by have e := Option.some.inj e; have h1 := HM6.out.ln; rw [← e, HNA.out] at h1; cases h1)))
     obtain ⟨d0, hd0, hk2⟩ := HD.out
     have hd7 : lookK (m.nodes ++ [(m.next, freshN 2 a.dir)]) a.dir = some d0 := by rw [lookK_append, hd0]
     have hds := HG.out.small hd0
     have HI7 := Lh HI7
     obtain ⟨R', hR'⟩ : ∃ R', R' = R.more m.next W3.heap.size (some W4.heap.size) := ⟨_, rfl⟩
     have hmb : R'.mb = R.mb := by rw [hR']; rfl
     rw [← hR'] at HI7
     have HMB := Lh hmb
     have HD7 := Lh (And.intro hd7 hk2)
     have HNL := Lh (show d0.names.length < maxLen from by have := HG.out.nlen _ _ hd0; unfold maxLen; omega)
     obtain ⟨m0, m1, m2, m3, m4⟩ := HI7.out.md.cells
     rw [hmb] at m0 m1 m2 m3 m4
     have hl := HI7.out.md.drew.look HD7.out.1 (by omega)
     have HN7 := Lh (HI7.out.md.drew.nodes _ _ HD7.out.1)
     obtain ⟨e0, e1, e2, e3, e4, e5⟩ := (HI7.out.md.nodes _ _ HD7.out.1).cells
     rw [if_pos hk2] at e4
     obtain ⟨p0, p1, p2⟩ := row3_cells HA7.out
     have HKT := Lh (key_txt (s := tx a.name) (by rw [tx_size]; have := HS.out; omega))
     clear hR' hmb hd0 hd7 hk2 HD HM6 HT7
     go_still_tail 13, (by kernel_rfl)
     change wpList _ _ _ _ _ (World.drew _)
     go_wp2_with (at_mapUpdate; refine wpList_mapUpdate_in _ rfl _ _ _ 77 rfl 9 3 keyed_str Tryz.underlying77 (plainElem (H := Value) Tryz.prog 3) (R'.nb a.dir) d0.names.length (namD d0.names) rfl (HN7.out.names HD7.out.2).2 HNL.out _ _ _ rfl rfl HKT.out (.lit (.int .i64 (m.next : Int))) [] (plainElem_int Tryz.underlying3 (WalkArith.wf_i64 (by omega))) ?_; intro W8 hown8 hturn8; have HT8 := Lh (And.intro hown8 hturn8); clear hown8 hturn8)
     go_wp2_with fail
     go_ret2
     unfold FreshR
     rw [HR.out]
     refine ⟨rfl, R', ?_, HMB.out⟩
     have ho := HT8.out.1
     rw [namD_put, tx_bts] at ho
     exact (HI7.out.drewN 1).then (Mid.named (HI7.out.md.drewN 1) HD7.out.1 HD7.out.2 rfl ho HT8.out.2.grown)
end Go.Proofs.YtppdihpobokfnaaGreatDoor
