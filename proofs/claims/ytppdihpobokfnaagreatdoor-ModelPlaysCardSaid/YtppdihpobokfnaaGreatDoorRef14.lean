/- A part of a proof. -/
import Derived.Test.YtppdihpobokfnaaGreatDoorGR2
import Derived.Deep.DeepCutAuto
import Derived.Deep.CutBlock
set_option linter.unusedVariables false
set_option linter.unusedSimpArgs false
set_option maxRecDepth 100000
namespace Go.Proofs.YtppdihpobokfnaaGreatDoor
open Go.RowKit Go.Joins
theorem info_u8n : (Tryz.prog.info? 5).map (fun i => (i.zero, i.size, i.bytes)) = some (some (.int .u8 0), 1, 1) := by kernel_rfl
set_option maxHeartbeats 4000000 in
theorem r22noughts (z : Int) (n : Nat) (hn : n = z.toNat) (hz : z ≤ 1000000) (hz2 : -1000000 ≤ z) (w : World) :
  Calls Tryz.prog 106 #[.int .i64 z] w fun e w' => e = .returned (.string (tx (List.replicate n 0))) ∧ Below w.heap.size w w' := by
 obtain ⟨i0, hi, hz0, hz1, hz3⟩ := info_parts info_u8n
 obtain ⟨W0, hmk, hbm, hrm⟩ := make_bytes (P := Tryz.prog) w 78 5 i0 Tryz.underlying78 hi hz0 hz1 hz3 n (by omega)
 have hcv : (convert 78 9 (.slice (some ⟨w.heap.size, 0, none⟩) n n)).run Tryz.prog W0 = .ok (.string (tx (List.replicate n 0))) W0 :=
  conv_string _ _ _ 5 w.heap.size n n (List.replicate n 0) Tryz.underlying78 Tryz.underlying5 Tryz.underlying9 hrm (by simp)
 generalize tx (List.replicate n 0) = Z at *
 by_cases c : z < 0
 · obtain rfl : n = 0 := by omega
   have hw : max z 0 = 0 := by omega
   rw [show ((0 : Nat) : Int) = 0 from rfl] at hmk
   clear hi hz0 hz1 hz3 hrm hn
   go_enter Tryz.func106, Tryz.ntmps106
   go_wp2_with fail
   go_ret
   exact ⟨rfl, hbm⟩
 · obtain rfl : z = (n : Int) := by omega
   have c2 : max (n : Int) 0 = (n : Int) := by omega
   clear hi hz0 hz1 hz3 hrm hn
   go_enter Tryz.func106, Tryz.ntmps106
   go_wp2_with fail
   go_ret
   exact ⟨rfl, hbm⟩
structure TFr (w : World) (O : Nat → Prop) (c : Cl) (W : World) (Q : Rr) (r : RM) (G : Nat) (x : RF) : Prop where
 fr : DFr w O c W Q r
 row : RowAt W G (rfC x)
 ng : ¬ Q.O G
 lt : w.heap.size + 1 < G
section
variable {w W W' : World} {O : Nat → Prop} {Q Q' : Rr} {r r' : RM} {c : Cl} {G : Nat} {x : RF}
theorem TFr.below (h : TFr w O c W Q r G x) (hb : Below W.heap.size W W') : TFr w O c W' Q r G x := ⟨h.fr.below hb, h.row.below hb h.row.lt, h.ng, h.lt⟩
theorem TFr.drewN (h : TFr w O c W Q r G x) (n : Nat) : TFr w O c (W.drewN n) Q r G x := h.below (below_drewN (Below.refl _ _) n)
theorem TFr.drew (h : TFr w O c W Q r G x) : TFr w O c W.drew Q r G x := h.drewN 1
theorem TFr.then (h : TFr w O c W Q r G x) (h' : DMid W Q.O W' Q' r') : TFr w O c W' Q' r' G x := ⟨h.fr.then h', (h'.row h.row h.ng).1, (h'.row h.row h.ng).2, h.lt⟩
theorem TFr.cells (h : TFr w O c W Q r G x) : W.cell? ⟨G, 0, none⟩ = some (.int .i64 (x.f : Int)) ∧ W.cell? ⟨G, 1, none⟩ = some (.int .i64 (x.n : Int)) ∧ W.cell? ⟨G, 2, none⟩ = some (.int .i64 (x.a : Int)) :=
 ⟨h.row.cell 0 (by simp [rfC]), h.row.cell 1 (by simp [rfC]), h.row.cell 2 (by simp [rfC])⟩
end
theorem fd_at {r : RM} {fd : Int} {i : Nat} {x : RF} (hi : firstAt (fdP fd) r.fds = (i : Int)) (hx : r.fds[i]? = some x) : (x.f : Int) = fd := by
 rcases first_find (fdP fd) r.fds with ⟨q, _⟩ | ⟨j, y, q, h1, h2, _, _⟩
 · rw [hi] at q; omega
 · rw [hi] at q
   obtain rfl : i = j := by omega
   rw [h1] at hx; cases hx
   simpa [fdP] using h2
theorem drop_at {r : RM} {fd : Int} {i : Nat} {x : RF} (hi : firstAt (fdP fd) r.fds = (i : Int)) (hx : r.fds[i]? = some x) : dropF r fd = { r with fds := r.fds.take i ++ r.fds.drop (i + 1) } := by
 rcases first_find (fdP fd) r.fds with ⟨q, _⟩ | ⟨j, y, q, h1, h2, _, h3⟩
 · rw [hi] at q; omega
 · rw [hi] at q
   obtain rfl : i = j := by omega
   rw [h1] at hx; cases hx
   unfold dropF
   rw [show (fun x : RF => (x.f : Int) == fd) = fdP fd from rfl, erase_at h1 h2 h3]
theorem tx_cut (l : Bs) (a b : Nat) : (tx l).extract a b = tx ((l.drop a).take (b - a)) := bts_ext (by rw [bts_extract, tx_bts, tx_bts])
theorem grow_len14 (l : Bs) (n : Nat) : (growB l n).length = max l.length n := by
 unfold growB
 rw [List.length_append, List.length_replicate]
 omega
theorem tx_cat (a b : Bs) : tx a ++ tx b = tx (a ++ b) := by simp [tx, ByteArray.ext_iff]
set_option maxHeartbeats 32000000 in
theorem r22through (Q : Rr) (r : RM) (c : Cl) (x : RF) (i many : Nat) (w : World) (h : DocAt w Q r) (hF : RFull r) (hi : firstAt (fdP c.fd) r.fds = (i : Int)) (hx : r.fds[i]? = some x) (hm : many ≤ c.d.size) (hd : c.d.size ≤ 1000000) :
  Calls Tryz.prog 67 #[.pointer (some ⟨Q.b, 0, none⟩), .agg #[.int .i64 c.k, .string c.p, .string c.o, .int .i64 c.fd, .int .i64 c.n, .string c.d, .bool c.on], .int .i64 (i : Int), .int .i64 (many : Int)] w (OpD w Q (throughR r c x many)) := by
 obtain ⟨⟨y, hy, hy1⟩, hxa, hxf⟩ := hF.fnode x (List.mem_of_getElem? hx)
 obtain ⟨k, hk, hkf, hyi⟩ := nd_at hy
 have HNO := Lh (fun W (hW : DocAt W Q r) => hkf ▸ r22node Q r (x.n : Int) W hW hF.nodes)
 have HY := Lh (And.intro hy (And.intro hy1 hyi))
 have HXA := Lh (And.intro hxa hxf)
 have HK := Lh hk
 have HX := Lh (And.intro hi hx)
 have HFD := Lh (fd_at hi hx)
 have HM := Lh (And.intro hm hd)
 have HDL := Lh ((hF.data y (List.mem_of_getElem? hk)).1)
 have HF := Lh hF
 have hil := (List.getElem?_eq_some_iff.1 hx).1
 have hkl := (List.getElem?_eq_some_iff.1 hk).1
 have i1 : (i : Int) < (r.fds.length : Int) := by omega
 have i0 : (0 : Int) ≤ (i : Int) := by omega
 have k1 : (k : Int) < (r.nodes.length : Int) := by omega
 have k0 : (0 : Int) ≤ (k : Int) := by omega
 clear hy hy1 hxa hxf hk hkf hyi hi hx hm hd hF hil hkl
 have F0 := DFr.start h c 36 33
 clear h
 go_enter Tryz.func67, Tryz.ntmps67
 go_upto_region 1 with fail
 generalize (w.alloc (.cells #[.int .i64 c.k, .string c.p, .string c.o, .int .i64 c.fd, .int .i64 c.n, .string c.d, .bool c.on] 36)).alloc (.cells #[.int .i64 0, .int .i64 0, .string ⟨#[]⟩, .slice none 0 0, .int .i64 0, .int .i64 0, .int .i64 0, .bool false, .slice none 0 0, .bool false] 33) = W1 at *
 have F1 := Lh F0
 clear F0
 obtain ⟨a0, a1, a2, a3, a4, a5, a6⟩ := row7_cells F1.out.call
 clear a0 a1 a2 a3 a4 a5 a6
 have e4 := F1.out.doc.cells.2.2.2.2
 obtain ⟨gf, cf, qf, hgf, f0, f1, f2⟩ := F1.out.doc.fd HX.out.2
 rw [qf] at e4
 have hbl := F1.out.doc.row.lt
 have hsz := F1.out.size
 go_upto_region 2 with fail
 have T2 := Lh (show TFr w Q.O c (W1.alloc (.cells #[.int .i64 (x.f : Int), .int .i64 (x.n : Int), .int .i64 (x.a : Int)] 108)) Q r W1.heap.size x from ⟨F1.out.alloc _, rowAt_alloc _ _ _, fun q => by have := F1.out.doc.old q; omega, F1.out.size⟩)
 have hsg := T2.out.row.lt
 clear e4 qf hgf f0 f1 f2 hbl F1
 generalize World.alloc W1 _ = W2 at *
 generalize W1.heap.size = G at *
 clear W1
 obtain ⟨a0, a1, a2, a3, a4, a5, a6⟩ := row7_cells T2.out.fr.call
 obtain ⟨t0, t1, t2⟩ := T2.out.cells
 clear a1 a2 a3 a6 t0
 clear a0 a4 a5 t2
 go_wp2_with fail
 refine (HNO.out _ T2.out.fr.doc).mono ?_
 rintro e W3 ⟨rfl, rfl⟩
 have e2 := T2.out.fr.doc.cells.2.2.1
 obtain ⟨gn, cn, qn, hgn, n0, n1, n2, n3⟩ := T2.out.fr.doc.node HK.out
 rw [qn] at e2
 have hbl := T2.out.fr.doc.row.lt
 obtain ⟨a0, a1, a2, a3, a4, a5, a6⟩ := row7_cells T2.out.fr.call
 clear a1 a2 a3 a4 a5 a6 n0 n1 n2 t1
 go_upto_block 0 with fail
 clear e2 qn hgn n3 a0 hbl
 by_cases k2 : c.k = 2
 · have HR0 := Lh k2
   have HR := Lh (show throughR r c x many = (An.zero, sweepR { r with fds := r.fds.take i ++ r.fds.drop (i + 1) }) from by unfold throughR; rw [HR0.out]; show (An.zero, sweepR (dropF r c.fd)) = _; rw [drop_at HX.out.1 HX.out.2])
   obtain ⟨iF, hi', hz0, hz1, hz2⟩ := info_parts info22F
   have HIF := Lh (And.intro hi' (And.intro hz0 (And.intro hz1 hz2)))
   have HDD := Lh T2.out.fr.doc
   have HLE := Lh (show r.fds.length ≤ 1000000 from by have := HF.out.fds; omega)
   have hkX := (List.getElem?_eq_some_iff.1 HX.out.2).1
   obtain ⟨gX, cX, hvX, hgX, hcX, _⟩ := own_el rfC_len HDD.out.fds HX.out.2
   clear hi' hz0 hz1 hz2 i1 i0 k0 k1
   by_cases hcz : cX = i + 1
   · subst hcz
     obtain ⟨_, _, e2, e3, e4⟩ := HDD.out.cells
     have e4' := e4
     rw [hvX] at e4
     have hbl := HDD.out.row.lt
     have hcx : ∀ W, Below (W2).heap.size (W2) W → ∀ j, j < (r).fds.length * 3 → W.cell? ⟨gX, j, none⟩ = ((r).fds.flatMap rfC)[j]? := fun W hW j hj => by
      have h9 := (HDD.out.below hW).fds
      rw [hvX] at h9
      exact h9.cellAt _ hj
     obtain ⟨T1, hT1⟩ : ∃ T1, T1 = ((r).fds.take i).flatMap rfC := ⟨_, rfl⟩
     obtain ⟨T3, hT3⟩ : ∃ T3, T3 = ((r).fds.drop (i + 1)).flatMap rfC := ⟨_, rfl⟩
     have HT1 : Hid (T1.length = i * 3 ∧ (∀ W, Below (W2).heap.size (W2) W → ∀ j u, T1[j]? = some u → W.cell? ((⟨gX, 0, none⟩ : Addr).add j) = some u) ∧ ∀ u ∈ T1, u.oneCell' = true) := by
      refine ⟨by rw [hT1, el_len (f := rfC) (sz := 3) (fun _ => rfl), List.length_take]; congr 1; omega, fun W hW j u hu => ?_, by rw [hT1]; exact oneF _⟩
      rw [addrX]
      have hk' : 0 + j < (r).fds.length * 3 := by
       have h9 := (List.getElem?_eq_some_iff.1 hu).1
       rw [hT1, el_len (f := rfC) (sz := 3) (fun _ => rfl), List.length_take] at h9
       have : min i (r).fds.length * 3 ≤ (r).fds.length * 3 := Nat.mul_le_mul_right _ (Nat.min_le_right _ _)
       omega
      rw [hcx W hW _ hk', Nat.zero_add, ← hu, hT1, ← el_take (f := rfC) (sz := 3) (fun _ => rfl), List.getElem?_take_of_lt (by
       have h9 := (List.getElem?_eq_some_iff.1 hu).1
       rw [hT1, el_len (f := rfC) (sz := 3) (fun _ => rfl), List.length_take] at h9
       have : min i (r).fds.length * 3 ≤ i * 3 := Nat.mul_le_mul_right _ (Nat.min_le_left _ _)
       omega)]
     have HT3 : Hid (T3.length = ((r).fds.length - (i + 1)) * 3 ∧ (∀ W, Below (W2).heap.size (W2) W → ∀ j u, T3[j]? = some u → W.cell? ((⟨gX, 0, none⟩ : Addr).add j) = some u) ∧ ∀ u ∈ T3, u.oneCell' = true) := by
      refine ⟨by rw [hT3, el_len (f := rfC) (sz := 3) (fun _ => rfl), List.length_drop], fun W hW j u hu => ?_, by rw [hT3]; exact oneF _⟩
      rw [hT3, List.drop_of_length_le (by omega)] at hu
      simp at hu
     have HE : Hid (T1 ++ T3 = ((r).fds.take i ++ (r).fds.drop (i + 1)).flatMap rfC ∧ ((r).fds.take i ++ (r).fds.drop (i + 1)).length = (i + ((r).fds.length - (i + 1)))) := by
      refine ⟨by rw [hT1, hT3]; simp, by simp; omega⟩
     have hlt : Hid (i + ((r).fds.length - (i + 1)) ≤ 1000000 ∧ i < (r).fds.length) := ⟨by have := HLE.out; omega, hkX⟩
     have i1 : (0 : Int) ≤ (i : Int) := by omega
     have i2 : (i : Int) < ((r).fds.length : Int) := by omega
     have i3 : (i : Int) ≤ ((i + 1) : Int) := by omega
     have i4 : (i : Int) + 1 ≤ ((r).fds.length : Int) := by omega
     have i5 : (0 : Int) ≤ (i : Int) + 1 := by omega
     have i6 : ((r).fds.length : Int) ≤ ((i + 1) : Int) := by omega
     have i7 : ((r).fds.length : Int) ≤ 1000000 := by have := HLE.out; omega
     have hneg : ¬ ((i : Int) < 0) := by omega
     have iw : IntKind.i64.wrap ((i : Int) + 1) = (i : Int) + 1 := IntWalk.i64_in _ (by omega)
     have HVX := Lh hvX
     have HS1 : Hid (Below (W2).heap.size (W2) (W2).drew) := (Below.refl _ _).drew
     have HQF : Hid (∀ W, Below (W2).heap.size (W2) W → W.cell? ⟨Q.b, 4, none⟩ = some (.slice (some ⟨gX, 0, none⟩) (r).fds.length (i + 1)) ∧ W.frozen? ⟨Q.b, 4, none⟩ = false ∧ Q.b < W.heap.size) := fun W hW => ⟨by
      obtain ⟨_, _, q2, q3, q4⟩ := (HDD.out.below hW).cells
      rw [hvX] at q4; exact q4, (HDD.out.below hW).free (by omega), (HDD.out.below hW).row.lt⟩
     have d1 : (W2).drew.cell? ⟨Q.b, 4, none⟩ = some (.slice (some ⟨gX, 0, none⟩) (r).fds.length (i + 1)) := (HQF.out _ HS1.out).1
     clear hT1 hT3 hcx hvX e2 e3 e4 e4'
     go_upto_region 6 with fail
     go_region_law (first
      | (refine step_append_own rfl (.const (.slice none 0 0)) (.tmp 43) 96 rfl (W2).heap.size 108 iF (.agg #[.int .i64 0, .int .i64 0, .int .i64 0]) 3 24 Tryz.underlying96 HIF.out.1 HIF.out.2.1 HIF.out.2.2.1 HIF.out.2.2.2 rfl (by decide) (.slice none 0 0) 0 [] (by rfl) (World.ownsRow_nil (W2).drew (W2).heap.size 108 3) ⟨gX, 0, none⟩ i (i + 1) T1 (by simp [Act.eval, Act.put]) HT1.out.1 (HT1.out.2.1 (W2).drew HS1.out) HT1.out.2.2 (by have := hlt.out.1; unfold maxLen; omega) (by have := hlt.out.1; omega) (Nat.le_refl (W2).heap.size) ?_; intro v5 w5 own5 grow5; have HO5 := Lh own5; have HS5 := Lh (HS1.out.grown grow5 (Nat.le_refl _) (fun j hj => by simp [Value.ownBlock] at hj)); have HZ5 := Lh grow5.size; have C5 : w5.cell? ⟨Q.b, 4, none⟩ = some (.slice (some ⟨gX, 0, none⟩) (r).fds.length (i + 1)) := (HQF.out _ HS5.out).1; clear own5 grow5)
      | (refine step_append_own rfl (.tmp 44) (.tmp 51) 96 rfl (W2).heap.size 108 iF (.agg #[.int .i64 0, .int .i64 0, .int .i64 0]) 3 24 Tryz.underlying96 HIF.out.1 HIF.out.2.1 HIF.out.2.2.1 HIF.out.2.2.2 rfl (by decide) v5 (0 + i) ([] ++ T1) (by simp [Act.eval, Act.put]) HO5.out ⟨gX, 0, none⟩ 0 0 T3 (by simp [Act.eval, Act.put]) (by have := HT3.out.1; have := hlt.out.2; omega) (HT3.out.2.1 w5 HS5.out) HT3.out.2.2 (by have := hlt.out.1; unfold maxLen; omega) (by have := hlt.out.1; omega) (by have := HZ5.out; exact this) ?_; intro v6 w6 own6 grow6; obtain ⟨a6, cap6, rfl⟩ := own_formX own6; have HO6 := Lh own6; have hlo5 : ∀ j, v5.ownBlock = some j → (W2).heap.size ≤ j := (fun j hj => (HO5.out.lt j hj).1); have HS6 := Lh (HS5.out.grown grow6 (by have := HZ5.out; exact this) hlo5); have C6 : w6.cell? ⟨Q.b, 4, none⟩ = some (.slice (some ⟨gX, 0, none⟩) (r).fds.length (i + 1)) := (HQF.out _ HS6.out).1; have F6 := (HQF.out _ HS6.out).2.1; have L6 := (HQF.out _ HS6.out).2.2; clear own6 grow6 hlo5))
     all_goals
      have HPX : Hid (DocAt (w6.setCell ⟨Q.b, 4, none⟩ (.slice a6 i cap6)) { Q with vf := .slice a6 i cap6 } { r with fds := (r).fds.take i ++ (r).fds.drop (i + 1) } ∧ Turns Q.O ({ Q with vf := .slice a6 i cap6 } : Rr).O (W2) (w6.setCell ⟨Q.b, 4, none⟩ (.slice a6 i cap6))) := by
       have ho : w6.ownsRow 0 108 3 (.slice a6 i cap6) ((r).fds.take i ++ (r).fds.drop (i + 1)).length (((r).fds.take i ++ (r).fds.drop (i + 1)).flatMap rfC) := by
        rw [← HE.out.1, HE.out.2]
        have h9 := own_base HO6.out (Nat.zero_le _)
        rw [List.nil_append, Nat.zero_add] at h9
        rw [show (r).fds.length - (i + 1) = 0 by omega, Nat.add_zero]
        exact h9
       have hf : ∀ kk, (Value.slice a6 i cap6).ownBlock = some kk → (W2).heap.size ≤ kk := fun j hj => (HO6.out.lt j (by first | exact hj | (rw [Nat.zero_add]; exact hj) | simpa using hj)).1
       have hp := DocAt.putF kinds3 HDD.out ho ⟨HS6.out.os, HS6.out.tape, HS6.out.output, HS6.out.size, fun k hl _ => HS6.out.block k hl⟩ (.inr hf)
       exact hp.2
     all_goals
      have HDX := Lh HPX.out
      clear HPX
      have T3 := Lh (T2.out.then ⟨HDX.out.1, HDX.out.2⟩)
      clear hgX hcX hkX C6 F6 L6 C5 HO6 HO5 HS5 HS6 HZ5 d1 T2 HVX HQF HT1 HT3 HE hlt HS1 HDD i1 i2 i3 i4 i5 i6 i7 hneg iw
      go_upto_region 7 with fail
      generalize World.setCell _ _ _ = W5 at *
      generalize hQX : (Rr.mk Q.b Q.vn Q.ve _) = QX at *
      have HQX := Lh (show QX.b = Q.b from by rw [← hQX])
      clear hQX
      have HSW := Lh (r22sweep QX _ W5 HDX.out.1 HF.out.nodes HF.out.ents (by show (r.fds.take i ++ r.fds.drop (i + 1)).length ≤ 1000000; have := HLE.out; simp; omega))
      rw [show QX.b = Q.b from HQX.out] at HSW
      go_wp2_with fail
      refine HSW.out.mono ?_
      rintro e WV ⟨rfl, hds⟩
      obtain ⟨QV, hQV, hmV⟩ := hds.mid
      have HQV := Lh (hQV.trans HQX.out)
      have FW := Lh (T3.out.then hmV).fr
      clear hds hmV T3 hQV HSW HDX
      have hsz := FW.out.size
      obtain ⟨_, _, _, _, _, _, _, _, _, _, _, _, _, _, _, _, _, _, _, _⟩ := row10_all FW.out.ans
      go_wp2_with fail
      refine fin10 Tryz.results67 rfl rfl FW.out.ans ?_
      · unfold OpD
        rw [HR.out]
        refine ⟨rfl, QV, ?_, HQV.out⟩
        repeat (refine DMid.other ?_ FW.out.nz (by omega) _ _)
        exact FW.out.mid
   · have hcz2 := hcz
     obtain ⟨_, _, e2, e3, e4⟩ := HDD.out.cells
     have e4' := e4
     rw [hvX] at e4
     have hbl := HDD.out.row.lt
     have hcx : ∀ W, Below (W2).heap.size (W2) W → ∀ j, j < (r).fds.length * 3 → W.cell? ⟨gX, j, none⟩ = ((r).fds.flatMap rfC)[j]? := fun W hW j hj => by
      have h9 := (HDD.out.below hW).fds
      rw [hvX] at h9
      exact h9.cellAt _ hj
     obtain ⟨T1, hT1⟩ : ∃ T1, T1 = ((r).fds.take i).flatMap rfC := ⟨_, rfl⟩
     obtain ⟨T3, hT3⟩ : ∃ T3, T3 = ((r).fds.drop (i + 1)).flatMap rfC := ⟨_, rfl⟩
     have HT1 : Hid (T1.length = i * 3 ∧ (∀ W, Below (W2).heap.size (W2) W → ∀ j u, T1[j]? = some u → W.cell? ((⟨gX, 0, none⟩ : Addr).add j) = some u) ∧ ∀ u ∈ T1, u.oneCell' = true) := by
      refine ⟨by rw [hT1, el_len (f := rfC) (sz := 3) (fun _ => rfl), List.length_take]; congr 1; omega, fun W hW j u hu => ?_, by rw [hT1]; exact oneF _⟩
      rw [addrX]
      have hk' : 0 + j < (r).fds.length * 3 := by
       have h9 := (List.getElem?_eq_some_iff.1 hu).1
       rw [hT1, el_len (f := rfC) (sz := 3) (fun _ => rfl), List.length_take] at h9
       have : min i (r).fds.length * 3 ≤ (r).fds.length * 3 := Nat.mul_le_mul_right _ (Nat.min_le_right _ _)
       omega
      rw [hcx W hW _ hk', Nat.zero_add, ← hu, hT1, ← el_take (f := rfC) (sz := 3) (fun _ => rfl), List.getElem?_take_of_lt (by
       have h9 := (List.getElem?_eq_some_iff.1 hu).1
       rw [hT1, el_len (f := rfC) (sz := 3) (fun _ => rfl), List.length_take] at h9
       have : min i (r).fds.length * 3 ≤ i * 3 := Nat.mul_le_mul_right _ (Nat.min_le_left _ _)
       omega)]
     have HT3 : Hid (T3.length = ((r).fds.length - (i + 1)) * 3 ∧ (∀ W, Below (W2).heap.size (W2) W → ∀ j u, T3[j]? = some u → W.cell? ((⟨gX, (i + 1) * 3, none⟩ : Addr).add j) = some u) ∧ ∀ u ∈ T3, u.oneCell' = true) := by
      refine ⟨by rw [hT3, el_len (f := rfC) (sz := 3) (fun _ => rfl), List.length_drop], fun W hW j u hu => ?_, by rw [hT3]; exact oneF _⟩
      rw [addrX]
      have hk' : (i + 1) * 3 + j < (r).fds.length * 3 := by
       have h9 := (List.getElem?_eq_some_iff.1 hu).1
       rw [hT3, el_len (f := rfC) (sz := 3) (fun _ => rfl), List.length_drop] at h9
       omega
      rw [hcx W hW _ hk', ← hu, hT3, ← el_drop (f := rfC) (sz := 3) (fun _ => rfl), List.getElem?_drop]
     have HE : Hid (T1 ++ T3 = ((r).fds.take i ++ (r).fds.drop (i + 1)).flatMap rfC ∧ ((r).fds.take i ++ (r).fds.drop (i + 1)).length = (i + ((r).fds.length - (i + 1)))) := by
      refine ⟨by rw [hT1, hT3]; simp, by simp; omega⟩
     have hlt : Hid (i + ((r).fds.length - (i + 1)) ≤ 1000000 ∧ i < (r).fds.length) := ⟨by have := HLE.out; omega, hkX⟩
     have i1 : (0 : Int) ≤ (i : Int) := by omega
     have i2 : (i : Int) < ((r).fds.length : Int) := by omega
     have i3 : (i : Int) ≤ (cX : Int) := by omega
     have i4 : (i : Int) + 1 ≤ ((r).fds.length : Int) := by omega
     have i5 : (0 : Int) ≤ (i : Int) + 1 := by omega
     have i6 : ((r).fds.length : Int) ≤ (cX : Int) := by omega
     have i7 : ((r).fds.length : Int) ≤ 1000000 := by have := HLE.out; omega
     have hneg : ¬ ((i : Int) < 0) := by omega
     have iw : IntKind.i64.wrap ((i : Int) + 1) = (i : Int) + 1 := IntWalk.i64_in _ (by omega)
     have HVX := Lh hvX
     have HS1 : Hid (Below (W2).heap.size (W2) (W2).drew) := (Below.refl _ _).drew
     have HQF : Hid (∀ W, Below (W2).heap.size (W2) W → W.cell? ⟨Q.b, 4, none⟩ = some (.slice (some ⟨gX, 0, none⟩) (r).fds.length cX) ∧ W.frozen? ⟨Q.b, 4, none⟩ = false ∧ Q.b < W.heap.size) := fun W hW => ⟨by
      obtain ⟨_, _, q2, q3, q4⟩ := (HDD.out.below hW).cells
      rw [hvX] at q4; exact q4, (HDD.out.below hW).free (by omega), (HDD.out.below hW).row.lt⟩
     have d1 : (W2).drew.cell? ⟨Q.b, 4, none⟩ = some (.slice (some ⟨gX, 0, none⟩) (r).fds.length cX) := (HQF.out _ HS1.out).1
     clear hT1 hT3 hcx hvX e2 e3 e4 e4'
     go_upto_region 6 with fail
     go_region_law (first
      | (refine step_append_own rfl (.const (.slice none 0 0)) (.tmp 43) 96 rfl (W2).heap.size 108 iF (.agg #[.int .i64 0, .int .i64 0, .int .i64 0]) 3 24 Tryz.underlying96 HIF.out.1 HIF.out.2.1 HIF.out.2.2.1 HIF.out.2.2.2 rfl (by decide) (.slice none 0 0) 0 [] (by rfl) (World.ownsRow_nil (W2).drew (W2).heap.size 108 3) ⟨gX, 0, none⟩ i cX T1 (by simp [Act.eval, Act.put]) HT1.out.1 (HT1.out.2.1 (W2).drew HS1.out) HT1.out.2.2 (by have := hlt.out.1; unfold maxLen; omega) (by have := hlt.out.1; omega) (Nat.le_refl (W2).heap.size) ?_; intro v5 w5 own5 grow5; have HO5 := Lh own5; have HS5 := Lh (HS1.out.grown grow5 (Nat.le_refl _) (fun j hj => by simp [Value.ownBlock] at hj)); have HZ5 := Lh grow5.size; have C5 : w5.cell? ⟨Q.b, 4, none⟩ = some (.slice (some ⟨gX, 0, none⟩) (r).fds.length cX) := (HQF.out _ HS5.out).1; clear own5 grow5)
      | (refine step_append_own rfl (.tmp 44) (.tmp 51) 96 rfl (W2).heap.size 108 iF (.agg #[.int .i64 0, .int .i64 0, .int .i64 0]) 3 24 Tryz.underlying96 HIF.out.1 HIF.out.2.1 HIF.out.2.2.1 HIF.out.2.2.2 rfl (by decide) v5 (0 + i) ([] ++ T1) (by simp [Act.eval, Act.put]) HO5.out ⟨gX, (i + 1) * 3, none⟩ ((r).fds.length - (i + 1)) (cX - (i + 1)) T3 (by simp [Act.eval, Act.put]) HT3.out.1 (HT3.out.2.1 w5 HS5.out) HT3.out.2.2 (by have := hlt.out.1; unfold maxLen; omega) (by have := hlt.out.1; omega) (by have := HZ5.out; exact this) ?_; intro v6 w6 own6 grow6; obtain ⟨a6, cap6, rfl⟩ := own_formX own6; have HO6 := Lh own6; have hlo5 : ∀ j, v5.ownBlock = some j → (W2).heap.size ≤ j := (fun j hj => (HO5.out.lt j hj).1); have HS6 := Lh (HS5.out.grown grow6 (by have := HZ5.out; exact this) hlo5); have C6 : w6.cell? ⟨Q.b, 4, none⟩ = some (.slice (some ⟨gX, 0, none⟩) (r).fds.length cX) := (HQF.out _ HS6.out).1; have F6 := (HQF.out _ HS6.out).2.1; have L6 := (HQF.out _ HS6.out).2.2; clear own6 grow6 hlo5))
     all_goals
      have HPX : Hid (DocAt (w6.setCell ⟨Q.b, 4, none⟩ (.slice a6 (i + ((r).fds.length - (i + 1))) cap6)) { Q with vf := .slice a6 (i + ((r).fds.length - (i + 1))) cap6 } { r with fds := (r).fds.take i ++ (r).fds.drop (i + 1) } ∧ Turns Q.O ({ Q with vf := .slice a6 (i + ((r).fds.length - (i + 1))) cap6 } : Rr).O (W2) (w6.setCell ⟨Q.b, 4, none⟩ (.slice a6 (i + ((r).fds.length - (i + 1))) cap6))) := by
       have ho : w6.ownsRow 0 108 3 (.slice a6 (i + ((r).fds.length - (i + 1))) cap6) ((r).fds.take i ++ (r).fds.drop (i + 1)).length (((r).fds.take i ++ (r).fds.drop (i + 1)).flatMap rfC) := by
        rw [← HE.out.1, HE.out.2]
        have h9 := own_base HO6.out (Nat.zero_le _)
        rw [List.nil_append, Nat.zero_add] at h9
        skip
        exact h9
       have hf : ∀ kk, (Value.slice a6 (i + ((r).fds.length - (i + 1))) cap6).ownBlock = some kk → (W2).heap.size ≤ kk := fun j hj => (HO6.out.lt j (by first | exact hj | (rw [Nat.zero_add]; exact hj) | simpa using hj)).1
       have hp := DocAt.putF kinds3 HDD.out ho ⟨HS6.out.os, HS6.out.tape, HS6.out.output, HS6.out.size, fun k hl _ => HS6.out.block k hl⟩ (.inr hf)
       exact hp.2
     all_goals
      have HDX := Lh HPX.out
      clear HPX
      have T3 := Lh (T2.out.then ⟨HDX.out.1, HDX.out.2⟩)
      clear hgX hcX hkX C6 F6 L6 C5 HO6 HO5 HS5 HS6 HZ5 d1 T2 HVX HQF HT1 HT3 HE hlt HS1 HDD i1 i2 i3 i4 i5 i6 i7 hneg iw
      go_upto_region 7 with fail
      generalize World.setCell _ _ _ = W5 at *
      generalize hQX : (Rr.mk Q.b Q.vn Q.ve _) = QX at *
      have HQX := Lh (show QX.b = Q.b from by rw [← hQX])
      clear hQX
      have HSW := Lh (r22sweep QX _ W5 HDX.out.1 HF.out.nodes HF.out.ents (by show (r.fds.take i ++ r.fds.drop (i + 1)).length ≤ 1000000; have := HLE.out; simp; omega))
      rw [show QX.b = Q.b from HQX.out] at HSW
      go_wp2_with fail
      refine HSW.out.mono ?_
      rintro e WV ⟨rfl, hds⟩
      obtain ⟨QV, hQV, hmV⟩ := hds.mid
      have HQV := Lh (hQV.trans HQX.out)
      have FW := Lh (T3.out.then hmV).fr
      clear hds hmV T3 hQV HSW HDX
      have hsz := FW.out.size
      obtain ⟨_, _, _, _, _, _, _, _, _, _, _, _, _, _, _, _, _, _, _, _⟩ := row10_all FW.out.ans
      go_wp2_with fail
      refine fin10 Tryz.results67 rfl rfl FW.out.ans ?_
      · unfold OpD
        rw [HR.out]
        refine ⟨rfl, QV, ?_, HQV.out⟩
        repeat (refine DMid.other ?_ FW.out.nz (by omega) _ _)
        exact FW.out.mid
 have b2 : (c.k == 2) = false := by rw [beq_eq_false_iff_ne]; exact k2
 have HN2 := Lh k2
 clear k2
 by_cases k3 : c.k = 3
 · have HR0 := Lh k3
   obtain ⟨a0, a1, a2, a3, a4, a5, a6⟩ := row7_cells T2.out.fr.call
   obtain ⟨t0, t1, t2⟩ := T2.out.cells
   clear a1 a2 a3 a6 t0
   clear a5 t1
   by_cases hn : c.n < 0 ∨ 1024 < c.n
   · have HR := Lh (show throughR r c x many = (failA 216, r) from by unfold throughR; rw [HR0.out]; exact if_pos hn)
     clear t2
     have F2 := Lh T2.out.fr
     clear T2
     rcases hn with hn | hn
     · go_wp2_with fail
       refine (r22fail _ _).mono ?_
       rintro e WF ⟨rfl, hb⟩
       have F3 := Lh (F2.out.below hb)
       clear hb F2
       obtain ⟨_, _, _, _, _, _, _, _, _, _, _, _, _, _, _, _, _, _, _, _⟩ := row10_all F3.out.ans
       unfold failV anV Stt.zero
       go_wp2_with fail
       refine fin10 Tryz.results67 rfl rfl F3.out.ans ?_
       · unfold OpD
         rw [HR.out]
         refine ⟨rfl, Q, ?_, rfl⟩
         repeat (refine DMid.other ?_ F3.out.nz (by omega) _ _)
         exact F3.out.mid
     · have hn' : ¬ c.n < 0 := by omega
       go_wp2_with fail
       refine (r22fail _ _).mono ?_
       rintro e WF ⟨rfl, hb⟩
       have F3 := Lh (F2.out.below hb)
       clear hb F2
       obtain ⟨_, _, _, _, _, _, _, _, _, _, _, _, _, _, _, _, _, _, _, _⟩ := row10_all F3.out.ans
       unfold failV anV Stt.zero
       go_wp2_with fail
       refine fin10 Tryz.results67 rfl rfl F3.out.ans ?_
       · unfold OpD
         rw [HR.out]
         refine ⟨rfl, Q, ?_, rfl⟩
         repeat (refine DMid.other ?_ F3.out.nz (by omega) _ _)
         exact F3.out.mid
   · have n0 : ¬ c.n < 0 := by omega
     have n7 : ¬ 1024 < c.n := by omega
     have HNN := Lh hn
     have HNA := Lh (And.intro n0 n7)
     have hys : ((tx y.data).size : Int) = (y.data.length : Int) := by rw [tx_size]
     clear hn
     by_cases hl : y.data.length < x.a
     · have l1 : ((tx y.data).size : Int) < (x.a : Int) := by omega
       have HR := Lh (show throughR r c x many = (An.zero, r) from by
        unfold throughR; rw [HR0.out]
        show (if _ then _ else _) = _
        rw [if_neg HNN.out]
        exact if_pos (by unfold RM.data; rw [HY.out.1]; exact hl))
       clear hys hl
       have F2 := Lh T2.out.fr
       clear T2
       have hsz := F2.out.size
       obtain ⟨_, _, _, _, _, _, _, _, _, _, _, _, _, _, _, _, _, _, _, _⟩ := row10_all F2.out.ans
       go_wp2_with fail
       refine fin10 Tryz.results67 rfl rfl F2.out.ans ?_
       · unfold OpD
         rw [HR.out]
         refine ⟨rfl, Q, ?_, rfl⟩
         repeat (refine DMid.other ?_ F2.out.nz (by omega) _ _)
         exact F2.out.mid
     · have l1 : ¬ ((tx y.data).size : Int) < (x.a : Int) := by omega
       obtain ⟨o, ho⟩ : ∃ o, o = (y.data.drop x.a).take c.n.toNat := ⟨_, rfl⟩
       obtain ⟨m, hm⟩ : ∃ m : Nat, m = min (x.a + c.n.toNat) y.data.length := ⟨_, rfl⟩
       have h2 : x.a + o.length = m := by rw [ho, List.length_take, List.length_drop, hm]; omega
       have hex : (tx y.data).extract x.a m = tx o := by
        rw [tx_cut, ho]
        congr 1
        rw [hm]
        by_cases q : x.a + c.n.toNat ≤ y.data.length
        · rw [Nat.min_eq_left q, Nat.add_sub_cancel_left]
        · rw [Nat.min_eq_right (by omega), List.take_of_length_le (by rw [List.length_drop]; exact Nat.le_refl _), List.take_of_length_le (by rw [List.length_drop]; omega)]
       have hmi : min ((x.a : Int) + c.n) ((tx y.data).size : Int) = (m : Int) := by rw [tx_size, hm]; omega
       have HR := Lh (show throughR r c x many = ({ An.zero with d := o }, { r with fds := r.fds.set i ⟨x.f, x.n, x.a + o.length⟩ }) from by
        unfold throughR; rw [HR0.out]
        show (if _ then _ else _) = _
        have hdd : r.data x.n = y.data := by unfold RM.data; rw [HY.out.1]
        rw [if_neg HNN.out, if_neg (by rw [hdd]; exact hl), hdd, ← ho]
        show (_, setF r c.fd (x.a + o.length)) = _
        rw [setF_at HF.out.one HX.out.2 HFD.out])
       have hos : ((tx o).size : Int) = (o.length : Int) := by rw [tx_size]
       have hxa : (x.a : Int) ≤ 262144 := by have := HXA.out.1; omega
       have hxm : (x.a : Int) ≤ (m : Int) := by omega
       have hms : (m : Int) ≤ ((tx y.data).size : Int) := by rw [tx_size, hm]; omega
       have hoc : ((x.a + o.length : Nat) : Int) = (x.a : Int) + ((tx o).size : Int) := by rw [tx_size]; omega
       have HOC := Lh hoc
       have hm9 : (m : Int) ≤ 1000000 := by have := HDL.out; rw [tx_size] at hms; omega
       have hm8 : (0 : Int) ≤ ((tx o).size : Int) := by omega
       have hm7 : (x.a : Int) + ((tx o).size : Int) ≤ 1000000 := by rw [tx_size]; omega
       have HDR := Lh (show (An.zero.d) = [] from rfl)
       clear hl hm ho h2 hoc hys hos
       obtain ⟨gf, cf, qf, hgf, ⟨vf, f2⟩, f3, u5, u6⟩ := DocAt.setF kinds3 T2.out.fr.doc HX.out.2 (j := 2) (x' := ⟨x.f, x.n, x.a + o.length⟩) (u := .int .i64 ((x.a + o.length : Nat) : Int)) (by omega) rfl
       have e4 := T2.out.fr.doc.cells.2.2.2.2
       rw [qf] at e4
       have hbl := T2.out.fr.doc.row.lt
       have HU := Lh (And.intro u5 u6)
       clear qf u5 u6
       rw [HOC.out] at HU
       go_upto_region 14 with fail
       go_still_tail 12, (by kernel_rfl)
       change wpList _ _ _ _ _ (World.drew _)
       go_upto_region 15 with fail
       have T3 := Lh (T2.out.then ⟨HU.out.1, HU.out.2⟩).drew
       clear HU e4 f2 f3 hgf hbl T2
       generalize World.drew _ = W4 at *
       have F3 := Lh T3.out.fr
       clear T3
       have hsz := F3.out.size
       obtain ⟨_, _, _, _, _, _, _, _, _, _, _, _, _, _, _, _, _, _, _, _⟩ := row10_all F3.out.ans
       go_wp2_with fail
       refine fin10 Tryz.results67 rfl rfl F3.out.ans ?_
       · unfold OpD
         rw [HR.out]
         refine ⟨rfl, Q, ?_, rfl⟩
         repeat (refine DMid.other ?_ F3.out.nz (by omega) _ _)
         exact F3.out.mid
 have b3 : (c.k == 3) = false := by rw [beq_eq_false_iff_ne]; exact k3
 have HN3 := Lh k3
 clear k3
 by_cases k4 : c.k = 4
 · have HR0 := Lh k4
   obtain ⟨a0, a1, a2, a3, a4, a5, a6⟩ := row7_cells T2.out.fr.call
   obtain ⟨t0, t1, t2⟩ := T2.out.cells
   clear a1 a2 a3 a6 t0
   clear a4 t1
   have hxa : (x.a : Int) ≤ 262144 := by have := HXA.out.1; omega
   have hdz : (c.d.size : Int) ≤ 1000000 := by have := HM.out.2; omega
   by_cases hc1 : 1024 < c.d.size
   · have c1 : (1024 : Int) < (c.d.size : Int) := by omega
     have HR := Lh (show throughR r c x many = (failA 216, r) from by
      unfold throughR; rw [HR0.out]
      show (if _ then _ else _) = _
      exact if_pos hc1)
     clear t2 hc1
     have F2 := Lh T2.out.fr
     clear T2
     go_wp2_with fail
     refine (r22fail _ _).mono ?_
     rintro e WF ⟨rfl, hb⟩
     have F3 := Lh (F2.out.below hb)
     clear hb F2
     obtain ⟨_, _, _, _, _, _, _, _, _, _, _, _, _, _, _, _, _, _, _, _⟩ := row10_all F3.out.ans
     unfold failV anV Stt.zero
     go_wp2_with fail
     refine fin10 Tryz.results67 rfl rfl F3.out.ans ?_
     · unfold OpD
       rw [HR.out]
       refine ⟨rfl, Q, ?_, rfl⟩
       repeat (refine DMid.other ?_ F3.out.nz (by omega) _ _)
       exact F3.out.mid
   · have c1 : ¬ (1024 : Int) < (c.d.size : Int) := by omega
     have HC1 := Lh hc1
     by_cases hc2 : 262144 < x.a + c.d.size
     · have c2 : (262144 : Int) < (x.a : Int) + (c.d.size : Int) := by omega
       have HR := Lh (show throughR r c x many = (failA 190, r) from by
        unfold throughR; rw [HR0.out]
        show (if _ then _ else _) = _
        rw [if_neg HC1.out]; exact if_pos hc2)
       clear hc1 hc2
       have F2 := Lh T2.out.fr
       clear T2
       go_wp2_with fail
       refine (r22fail _ _).mono ?_
       rintro e WF ⟨rfl, hb⟩
       have F3 := Lh (F2.out.below hb)
       clear hb F2
       obtain ⟨_, _, _, _, _, _, _, _, _, _, _, _, _, _, _, _, _, _, _, _⟩ := row10_all F3.out.ans
       unfold failV anV Stt.zero
       go_wp2_with fail
       refine fin10 Tryz.results67 rfl rfl F3.out.ans ?_
       · unfold OpD
         rw [HR.out]
         refine ⟨rfl, Q, ?_, rfl⟩
         repeat (refine DMid.other ?_ F3.out.nz (by omega) _ _)
         exact F3.out.mid
     · have c2 : ¬ (262144 : Int) < (x.a : Int) + (c.d.size : Int) := by omega
       have HC2 := Lh hc2
       by_cases hc3 : many = 0
       · subst hc3
         have HR := Lh (show throughR r c x 0 = (An.zero, r) from by
          unfold throughR; rw [HR0.out]
          show (if _ then _ else _) = _
          rw [if_neg HC1.out, if_neg HC2.out]; exact if_pos rfl)
         clear hc1 hc2
         have F2 := Lh T2.out.fr
         clear T2
         have hsz := F2.out.size
         obtain ⟨_, _, _, _, _, _, _, _, _, _, _, _, _, _, _, _, _, _, _, _⟩ := row10_all F2.out.ans
         go_wp2_with fail
         refine fin10 Tryz.results67 rfl rfl F2.out.ans ?_
         · unfold OpD
           rw [HR.out]
           refine ⟨rfl, Q, ?_, rfl⟩
           repeat (refine DMid.other ?_ F2.out.nz (by omega) _ _)
           exact F2.out.mid
       · have c3 : ¬ (many : Int) = 0 := by omega
         have c3' : ((many : Int) == 0) = false := by rw [beq_eq_false_iff_ne]; exact c3
         have HC3 := Lh hc3
         obtain ⟨D, hD⟩ : ∃ D, D = growB y.data x.a := ⟨_, rfl⟩
         obtain ⟨Z, hZ⟩ : ∃ Z, Z = tx (List.replicate (x.a - y.data.length) 0) := ⟨_, rfl⟩
         have hcat : tx y.data ++ Z = tx D := by rw [hZ, hD, tx_cat]; rfl
         obtain ⟨B, hB⟩ : ∃ B, B = (bts c.d).take many := ⟨_, rfl⟩
         have hBl : B.length = many := by rw [hB, List.length_take, bts_length]; have := HM.out.1; omega
         have hDl : D.length = max y.data.length x.a := by rw [hD]; exact grow_len14 _ _
         have hbnd : D.length ≤ 262144 := by have := HDL.out; have := HXA.out.1; omega
         obtain ⟨P1, hP1⟩ : ∃ P, P = tx (D.take x.a) := ⟨_, rfl⟩
         have hx1 : (tx D).extract 0 x.a = P1 := by rw [hP1, tx_cut]; simp
         obtain ⟨P2, hP2⟩ : ∃ P, P = tx B := ⟨_, rfl⟩
         have hx2 : c.d.extract 0 many = P2 := by rw [hP2, hB]; exact bts_ext (by rw [bts_to, tx_bts])
         obtain ⟨P3, hP3⟩ : ∃ P, P = tx (D.drop (x.a + many)) := ⟨_, rfl⟩
         have hover : P1 ++ P2 ++ P3 = tx (overB D x.a B) := by rw [hP1, hP2, hP3, tx_cat, tx_cat]; unfold overB; rw [hBl]
         have HR := Lh (show throughR r c x many = ({ An.zero with n := (many : Int) }, { ({ r with nodes := r.nodes.set k { y with data := overB D x.a B } } : RM) with fds := r.fds.set i ⟨x.f, x.n, x.a + many⟩ }) from by
          unfold throughR; rw [HR0.out]
          show (if _ then _ else _) = _
          rw [if_neg HC1.out, if_neg HC2.out, if_neg HC3.out, setR_at HF.out.ids HK.out HY.out.2.2]
          have h9 := setF_at (r := { r with nodes := r.nodes.set k { y with data := overB D x.a B } }) HF.out.one HX.out.2 HFD.out (x.a + many)
          rw [hD, hB] at h9 ⊢
          exact congrArg (fun z => (({ An.zero with n := (many : Int) } : An), z)) h9)
         have HNG := Lh (fun W => hZ ▸ r22noughts ((x.a : Int) - ((tx y.data).size : Int)) (x.a - y.data.length) (by rw [tx_size]; omega) (by omega) (by have := HDL.out; rw [tx_size]; omega) W)
         have hZs : Z.size = x.a - y.data.length := by rw [hZ, tx_size, List.length_replicate]
         have z1 : ¬ maxLen < (tx y.data).size + Z.size := by rw [hZs, tx_size]; have := HDL.out; have := HXA.out.1; unfold maxLen; omega
         have z2 : ¬ 9223372036854775807 < (tx y.data).size + Z.size := by rw [hZs, tx_size]; have := HDL.out; have := HXA.out.1; omega
         have hyb : ((tx y.data).size : Int) ≤ 262144 := by rw [tx_size]; have := HDL.out; omega
         have hy0 : (0 : Int) ≤ ((tx y.data).size : Int) := by omega
         have HCAT := Lh hcat
         have HOV := Lh hover
         have P1s : P1.size = x.a := by rw [hP1, tx_size, List.length_take, hDl]; omega
         have P2s : P2.size = many := by rw [hP2, tx_size, hBl]
         have P3s : P3.size ≤ 262144 := by rw [hP3, tx_size, List.length_drop]; omega
         have mn9 : many ≤ 1000000 := by have := HM.out; omega
         have HX1 := Lh hx1
         have HX2 := Lh hx2
         have HP3 := Lh hP3
         have HPS := Lh (And.intro P1s (And.intro P2s (And.intro P3s mn9)))
         have hDs : ((tx D).size : Int) = (D.length : Int) := by rw [tx_size]
         have HDS := Lh (And.intro hDs (And.intro hbnd hDl))
         clear hc1 hc2 hc3 hcat hover hP1 hP2 hP3 hB hBl hD hZ hZs P1s P2s P3s mn9 hx1 hx2 hbnd hDl hDs
         go_wp2_with fail
         refine (HNG.out _).mono ?_
         rintro e W4 ⟨rfl, hb⟩
         have T3 := Lh (T2.out.below hb)
         clear hb T2 HNG a0 a5 t2 hsg
         obtain ⟨a0, a1, a2, a3, a4, a5, a6⟩ := row7_cells T3.out.fr.call
         obtain ⟨t0, t1, t2⟩ := T3.out.cells
         clear a1 a2 a3 a6 t0
         clear a0 a4 a5 t1
         go_upto_region 24 with fail
         rw [HCAT.out]
         clear z1 z2 hy0 hyb
         have hd9 : (x.a : Int) ≤ ((tx D).size : Int) := by rw [HDS.out.1, HDS.out.2.2]; omega
         have hd8 : ((tx D).size : Int) ≤ 262144 := by rw [HDS.out.1]; have := HDS.out.2.1; omega
         have hm9 : (many : Int) ≤ (c.d.size : Int) := by have := HM.out.1; omega
         have hm8 : (0 : Int) ≤ (many : Int) := by omega
         have hx8 : (0 : Int) ≤ (x.a : Int) := by omega
         have q1 : ¬ maxLen < P1.size + P2.size := by rw [HPS.out.1, HPS.out.2.1]; have := HXA.out.1; have := HPS.out.2.2.2; unfold maxLen; omega
         have q2 : ¬ 9223372036854775807 < P1.size + P2.size := by rw [HPS.out.1, HPS.out.2.1]; have := HXA.out.1; have := HPS.out.2.2.2; omega
         have q3 : ¬ maxLen < (P1 ++ P2).size + P3.size := by rw [ByteArray.size_append, HPS.out.1, HPS.out.2.1]; have := HXA.out.1; have := HPS.out.2.2; unfold maxLen; omega
         have q4 : ¬ 9223372036854775807 < (P1 ++ P2).size + P3.size := by rw [ByteArray.size_append, HPS.out.1, HPS.out.2.1]; have := HXA.out.1; have := HPS.out.2.2; omega
         have q5 : ¬ maxLen < P1.size + P2.size + P3.size := by rw [HPS.out.1, HPS.out.2.1]; have := HXA.out.1; have := HPS.out.2.2; unfold maxLen; omega
         have q6 : ¬ 9223372036854775807 < P1.size + P2.size + P3.size := by rw [HPS.out.1, HPS.out.2.1]; have := HXA.out.1; have := HPS.out.2.2; omega
         obtain ⟨gn2, cn2, qn, hgn, ⟨vn9, n3⟩, n4, u5, u6⟩ := DocAt.setN kinds3 T3.out.fr.doc HK.out (j := 3) (x' := { y with data := overB D x.a B }) (u := .string (tx (overB D x.a B))) (by omega) rfl
         rw [← HOV.out] at u5 u6
         have HU := Lh (And.intro u5 u6)
         clear u5 u6
         by_cases hcl : x.a + many < D.length
         · have c4 : (x.a : Int) + (many : Int) < ((tx D).size : Int) := by rw [HDS.out.1]; omega
           have hx3 : (tx D).extract (x.a + many) (tx D).size = P3 := by rw [HP3.out]; exact bts_ext (by rw [bts_from, tx_bts, tx_bts])
           have c5 : (x.a : Int) + (many : Int) ≤ ((tx D).size : Int) := by omega
           have c6 : ((x.a : Int) + (many : Int)).toNat = x.a + many := by omega
           clear hcl
           go_upto_region 27 with fail
           obtain ⟨a0, a1, a2, a3, a4, a5, a6⟩ := row7_cells T3.out.fr.call
           obtain ⟨t0, t1, t2⟩ := T3.out.cells
           clear a1 a2 a3 a6 t0
           clear a0 a4 t1 t2
           obtain ⟨_, _, t2⟩ := T3.out.cells
           have e2 := T3.out.fr.doc.cells.2.2.1
           rw [qn] at e2
           have hbl := T3.out.fr.doc.row.lt
           have hx1 := HX1.out
           have hx2 := HX2.out
           go_still_tail 18, (by kernel_rfl)
           change wpList _ _ _ _ _ (World.drew _)
           go_upto_region 28 with fail
           have T4 := Lh (T3.out.then ⟨HU.out.1, HU.out.2⟩).drew
           clear HU e2 n3 n4 qn hgn hbl T3 a5 t2 hx1 hx2 q1 q2 q3 q4 q5 q6 hd9 hd8 c4
           generalize World.drew _ = W5 at *
           have t2 := T4.out.cells.2.2
           obtain ⟨gf, cf, qf, hgf, ⟨vf, f2⟩, f3, u5, u6⟩ := DocAt.setF kinds3 T4.out.fr.doc HX.out.2 (j := 2) (x' := ⟨x.f, x.n, x.a + many⟩) (u := .int .i64 ((x.a + many : Nat) : Int)) (by omega) rfl
           have e4 := T4.out.fr.doc.cells.2.2.2.2
           rw [qf] at e4
           have hbl := T4.out.fr.doc.row.lt
           have HU := Lh (And.intro u5 u6)
           clear qf u5 u6
           rw [show ((x.a + many : Nat) : Int) = (x.a : Int) + (many : Int) from Int.natCast_add _ _] at HU
           go_still_tail 11, (by kernel_rfl)
           change wpList _ _ _ _ _ (World.drew _)
           go_upto_region 29 with fail
           have T5 := Lh (T4.out.then ⟨HU.out.1, HU.out.2⟩).drew
           clear HU e4 f2 f3 hgf hbl T4
           generalize World.drew _ = W6 at *
           have F5 := Lh T5.out.fr
           clear T5
           have hsz := F5.out.size
           obtain ⟨_, _, _, _, _, _, _, _, _, _, _, _, _, _, _, _, _, _, _, _⟩ := row10_all F5.out.ans
           go_wp2_with fail
           refine fin10 Tryz.results67 rfl rfl F5.out.ans ?_
           · unfold OpD
             rw [HR.out]
             refine ⟨rfl, Q, ?_, rfl⟩
             repeat (refine DMid.other ?_ F5.out.nz (by omega) _ _)
             exact F5.out.mid
         · have c4 : ¬ (x.a : Int) + (many : Int) < ((tx D).size : Int) := by rw [HDS.out.1]; omega
           have hP3 : P3 = ⟨#[]⟩ := by rw [HP3.out, List.drop_of_length_le (by omega)]; rfl
           subst hP3
           clear hcl
           go_upto_region 27 with fail
           obtain ⟨a0, a1, a2, a3, a4, a5, a6⟩ := row7_cells T3.out.fr.call
           obtain ⟨t0, t1, t2⟩ := T3.out.cells
           clear a1 a2 a3 a6 t0
           clear a0 a4 t1 t2
           obtain ⟨_, _, t2⟩ := T3.out.cells
           have e2 := T3.out.fr.doc.cells.2.2.1
           rw [qn] at e2
           have hbl := T3.out.fr.doc.row.lt
           have hx1 := HX1.out
           have hx2 := HX2.out
           go_still_tail 18, (by kernel_rfl)
           change wpList _ _ _ _ _ (World.drew _)
           go_upto_region 28 with fail
           have T4 := Lh (T3.out.then ⟨HU.out.1, HU.out.2⟩).drew
           clear HU e2 n3 n4 qn hgn hbl T3 a5 t2 hx1 hx2 q1 q2 q3 q4 q5 q6 hd9 hd8 c4
           generalize World.drew _ = W5 at *
           have t2 := T4.out.cells.2.2
           obtain ⟨gf, cf, qf, hgf, ⟨vf, f2⟩, f3, u5, u6⟩ := DocAt.setF kinds3 T4.out.fr.doc HX.out.2 (j := 2) (x' := ⟨x.f, x.n, x.a + many⟩) (u := .int .i64 ((x.a + many : Nat) : Int)) (by omega) rfl
           have e4 := T4.out.fr.doc.cells.2.2.2.2
           rw [qf] at e4
           have hbl := T4.out.fr.doc.row.lt
           have HU := Lh (And.intro u5 u6)
           clear qf u5 u6
           rw [show ((x.a + many : Nat) : Int) = (x.a : Int) + (many : Int) from Int.natCast_add _ _] at HU
           go_still_tail 11, (by kernel_rfl)
           change wpList _ _ _ _ _ (World.drew _)
           go_upto_region 29 with fail
           have T5 := Lh (T4.out.then ⟨HU.out.1, HU.out.2⟩).drew
           clear HU e4 f2 f3 hgf hbl T4
           generalize World.drew _ = W6 at *
           have F5 := Lh T5.out.fr
           clear T5
           have hsz := F5.out.size
           obtain ⟨_, _, _, _, _, _, _, _, _, _, _, _, _, _, _, _, _, _, _, _⟩ := row10_all F5.out.ans
           go_wp2_with fail
           refine fin10 Tryz.results67 rfl rfl F5.out.ans ?_
           · unfold OpD
             rw [HR.out]
             refine ⟨rfl, Q, ?_, rfl⟩
             repeat (refine DMid.other ?_ F5.out.nz (by omega) _ _)
             exact F5.out.mid
 have b4 : (c.k == 4) = false := by rw [beq_eq_false_iff_ne]; exact k4
 have HN4 := Lh k4
 clear k4
 by_cases k5 : c.k = 5
 · have HR0 := Lh k5
   obtain ⟨a0, a1, a2, a3, a4, a5, a6⟩ := row7_cells T2.out.fr.call
   obtain ⟨t0, t1, t2⟩ := T2.out.cells
   clear a1 a2 a3 a6 t0
   clear a5 t1 t2
   by_cases hn : c.n < 0 ∨ 262144 < c.n
   · have HR := Lh (show throughR r c x many = (failA 216, r) from by unfold throughR; rw [HR0.out]; exact if_pos hn)
     have F2 := Lh T2.out.fr
     clear T2
     rcases hn with hn | hn
     · go_wp2_with fail
       refine (r22fail _ _).mono ?_
       rintro e WF ⟨rfl, hb⟩
       have F3 := Lh (F2.out.below hb)
       clear hb F2
       obtain ⟨_, _, _, _, _, _, _, _, _, _, _, _, _, _, _, _, _, _, _, _⟩ := row10_all F3.out.ans
       unfold failV anV Stt.zero
       go_wp2_with fail
       refine fin10 Tryz.results67 rfl rfl F3.out.ans ?_
       · unfold OpD
         rw [HR.out]
         refine ⟨rfl, Q, ?_, rfl⟩
         repeat (refine DMid.other ?_ F3.out.nz (by omega) _ _)
         exact F3.out.mid
     · have hn' : ¬ c.n < 0 := by omega
       go_wp2_with fail
       refine (r22fail _ _).mono ?_
       rintro e WF ⟨rfl, hb⟩
       have F3 := Lh (F2.out.below hb)
       clear hb F2
       obtain ⟨_, _, _, _, _, _, _, _, _, _, _, _, _, _, _, _, _, _, _, _⟩ := row10_all F3.out.ans
       unfold failV anV Stt.zero
       go_wp2_with fail
       refine fin10 Tryz.results67 rfl rfl F3.out.ans ?_
       · unfold OpD
         rw [HR.out]
         refine ⟨rfl, Q, ?_, rfl⟩
         repeat (refine DMid.other ?_ F3.out.nz (by omega) _ _)
         exact F3.out.mid
   · obtain ⟨z, hz⟩ : ∃ z : Nat, c.n = (z : Int) := ⟨c.n.toNat, by omega⟩
     have n0 : ¬ c.n < 0 := by omega
     have n7 : ¬ 262144 < c.n := by omega
     have HZ := Lh hz
     have HNN := Lh hn
     have HR := Lh (show throughR r c x many = ({ An.zero with n := (z : Int) }, { r with fds := r.fds.set i ⟨x.f, x.n, z⟩ }) from by
      unfold throughR; rw [HR0.out]
      show (if _ then _ else _) = _
      rw [if_neg HNN.out, setF_at HF.out.one HX.out.2 HFD.out, HZ.out]; rfl)
     rw [HZ.out] at a4 n0 n7
     clear hz hn
     obtain ⟨gf, cf, qf, hgf, ⟨vf, f2⟩, f3, u5, u6⟩ := DocAt.setF kinds3 T2.out.fr.doc HX.out.2 (j := 2) (x' := ⟨x.f, x.n, z⟩) (u := .int .i64 ((z : Nat) : Int)) (by omega) rfl
     have e4 := T2.out.fr.doc.cells.2.2.2.2
     rw [qf] at e4
     have hbl := T2.out.fr.doc.row.lt
     have HU := Lh (And.intro u5 u6)
     clear qf u5 u6
     go_upto_region 33 with fail
     go_still_tail 9, (by kernel_rfl)
     change wpList _ _ _ _ _ (World.drew _)
     go_upto_region 34 with fail
     have T3 := Lh (T2.out.then ⟨HU.out.1, HU.out.2⟩).drew
     clear HU e4 f2 f3 hgf hbl T2
     generalize World.drew _ = W4 at *
     have F3 := Lh T3.out.fr
     clear T3
     obtain ⟨a0, a1, a2, a3, a4, a5, a6⟩ := row7_cells F3.out.call
     clear a0 a1 a2 a3 a5 a6
     rw [HZ.out] at a4
     have hsz := F3.out.size
     obtain ⟨_, _, _, _, _, _, _, _, _, _, _, _, _, _, _, _, _, _, _, _⟩ := row10_all F3.out.ans
     go_wp2_with fail
     refine fin10 Tryz.results67 rfl rfl F3.out.ans ?_
     · unfold OpD
       rw [HR.out]
       refine ⟨rfl, Q, ?_, rfl⟩
       repeat (refine DMid.other ?_ F3.out.nz (by omega) _ _)
       exact F3.out.mid
 have b5 : (c.k == 5) = false := by rw [beq_eq_false_iff_ne]; exact k5
 have HN5 := Lh k5
 clear k5
 by_cases k6 : c.k = 6
 · have HR0 := Lh k6
   obtain ⟨a0, a1, a2, a3, a4, a5, a6⟩ := row7_cells T2.out.fr.call
   obtain ⟨t0, t1, t2⟩ := T2.out.cells
   clear a1 a2 a3 a6 t0
   clear a5 t1 t2
   by_cases c1 : c.n < 0
   · have HR := Lh (show throughR r c x many = (failA 216, r) from by
      unfold throughR; rw [HR0.out]
      show (if _ then _ else _) = _
      exact if_pos c1)
     have F2 := Lh T2.out.fr
     clear T2
     go_wp2_with fail
     refine (r22fail _ _).mono ?_
     rintro e WF ⟨rfl, hb⟩
     have F3 := Lh (F2.out.below hb)
     clear hb F2
     obtain ⟨_, _, _, _, _, _, _, _, _, _, _, _, _, _, _, _, _, _, _, _⟩ := row10_all F3.out.ans
     unfold failV anV Stt.zero
     go_wp2_with fail
     refine fin10 Tryz.results67 rfl rfl F3.out.ans ?_
     · unfold OpD
       rw [HR.out]
       refine ⟨rfl, Q, ?_, rfl⟩
       repeat (refine DMid.other ?_ F3.out.nz (by omega) _ _)
       exact F3.out.mid
   · by_cases c2 : 262144 < c.n
     · have HR := Lh (show throughR r c x many = (failA 190, r) from by
        unfold throughR; rw [HR0.out]
        show (if _ then _ else _) = _
        rw [if_neg c1]; exact if_pos c2)
       have F2 := Lh T2.out.fr
       clear T2
       go_wp2_with fail
       refine (r22fail _ _).mono ?_
       rintro e WF ⟨rfl, hb⟩
       have F3 := Lh (F2.out.below hb)
       clear hb F2
       obtain ⟨_, _, _, _, _, _, _, _, _, _, _, _, _, _, _, _, _, _, _, _⟩ := row10_all F3.out.ans
       unfold failV anV Stt.zero
       go_wp2_with fail
       refine fin10 Tryz.results67 rfl rfl F3.out.ans ?_
       · unfold OpD
         rw [HR.out]
         refine ⟨rfl, Q, ?_, rfl⟩
         repeat (refine DMid.other ?_ F3.out.nz (by omega) _ _)
         exact F3.out.mid
     · obtain ⟨z, hz⟩ : ∃ z : Nat, c.n = (z : Int) := ⟨c.n.toNat, by omega⟩
       have HZ := Lh hz
       have HNN := Lh (And.intro c1 c2)
       obtain ⟨D, hD⟩ : ∃ D, D = growB y.data z := ⟨_, rfl⟩
       obtain ⟨Z, hZ⟩ : ∃ Z, Z = tx (List.replicate (z - y.data.length) 0) := ⟨_, rfl⟩
       have hcat : tx y.data ++ Z = tx D := by rw [hZ, hD, tx_cat]; rfl
       have hDl : D.length = max y.data.length z := by rw [hD]; exact grow_len14 _ _
       have HR := Lh (show throughR r c x many = (An.zero, { r with nodes := r.nodes.set k { y with data := D.take z } }) from by
        unfold throughR; rw [HR0.out]
        show (if _ then _ else _) = _
        rw [if_neg HNN.out.1, if_neg HNN.out.2, setR_at HF.out.ids HK.out HY.out.2.2, HZ.out, hD]; rfl)
       have z9 : (z : Int) ≤ 262144 := by omega
       have HNG0 := Lh (fun W => hZ ▸ r22noughts ((z : Int) - ((tx y.data).size : Int)) (z - y.data.length) (by rw [tx_size]; omega) (by omega) (by have := HDL.out; rw [tx_size]; omega) W)
       have hw : IntKind.i64.wrap ((z : Int) - ((tx y.data).size : Int)) = (z : Int) - ((tx y.data).size : Int) := IntWalk.i64_in _ (by have := HDL.out; rw [tx_size]; omega)
       have HNG := Lh (fun W => show Calls Tryz.prog 106 #[.int .i64 (IntKind.i64.wrap ((z : Int) - ((tx y.data).size : Int)))] W fun e w' => e = .returned (.string Z) ∧ Below W.heap.size W w' from by rw [hw]; exact HNG0.out W)
       clear hw HNG0
       have hZs : Z.size = z - y.data.length := by rw [hZ, tx_size, List.length_replicate]
       have z1 : ¬ maxLen < (tx y.data).size + Z.size := by rw [hZs, tx_size]; have := HDL.out; unfold maxLen; omega
       have z2 : ¬ 9223372036854775807 < (tx y.data).size + Z.size := by rw [hZs, tx_size]; have := HDL.out; omega
       have hyb : ((tx y.data).size : Int) ≤ 262144 := by rw [tx_size]; have := HDL.out; omega
       have hy0 : (0 : Int) ≤ ((tx y.data).size : Int) := by omega
       have hz0 : (0 : Int) ≤ (z : Int) := by omega
       have z3 : (z : Int) ≤ ((tx y.data ++ Z).size : Int) := by rw [hcat, tx_size, hDl]; omega
       have z3b : (z : Int) ≤ ((tx y.data).size : Int) + (Z.size : Int) := by have h9 := z3; rw [ByteArray.size_append] at h9; omega
       have z3c : z ≤ (tx y.data).size + Z.size := by omega
       have z3d : z ≤ y.data.length + Z.size := by have h9 := z3c; rw [tx_size] at h9; exact h9
       have z3e : (z : Int) ≤ (y.data.length : Int) + (Z.size : Int) := by omega
       have z4 : (tx y.data ++ Z).extract 0 z = tx (D.take z) := by rw [hcat, tx_cut]; simp
       rw [HZ.out] at c1 c2 a4
       clear hz hD hZ hDl hZs hcat
       have e2 := T2.out.fr.doc.cells.2.2.1
       obtain ⟨gn2, cn2, qn, hgn, _, _, _, _⟩ := DocAt.setN kinds3 T2.out.fr.doc HK.out (j := 3) (x' := { y with data := D.take z }) (u := .string (tx (D.take z))) (by omega) rfl
       rw [qn] at e2
       have HQN := Lh qn
       have hbl := T2.out.fr.doc.row.lt
       have HKE := Lh (fun W r' (hT : TFr w Q.O c W Q r' G x) => show W.cell? ⟨Q.b, 2, none⟩ = some (.slice (some ⟨gn2, 0, none⟩) r.nodes.length cn2) ∧ W.cell? ⟨w.heap.size, 4, none⟩ = some (.int .i64 (z : Int)) from ⟨by rw [← qn]; exact hT.fr.doc.cells.2.2.1, by have h4 := (row7_cells hT.fr.call).2.2.2.2.1; rw [HZ.out] at h4; exact h4⟩)
       have HST := Lh (fun W (hT : TFr w Q.O c W Q r G x) => show (∃ v, W.cell? ⟨gn2, k * 4 + 3, none⟩ = some v) ∧ W.frozen? ⟨gn2, k * 4 + 3, none⟩ = false ∧ gn2 < W.heap.size ∧ DocAt (W.setCell ⟨gn2, k * 4 + 3, none⟩ (.string (tx (D.take z)))) Q { r with nodes := r.nodes.set k { y with data := D.take z } } ∧ Turns Q.O Q.O W (W.setCell ⟨gn2, k * 4 + 3, none⟩ (.string (tx (D.take z)))) from by
        obtain ⟨g3, c3, q3, h3, v3, f3, d3, t3⟩ := DocAt.setN kinds3 hT.fr.doc HK.out (j := 3) (x' := { y with data := D.take z }) (u := .string (tx (D.take z))) (by omega) rfl
        rw [qn] at q3
        cases q3
        exact ⟨v3, f3, h3, d3, t3⟩)
       clear qn
       go_upto_region 40 with fail
       go_region_held3 (fun W => W.cell? ⟨Q.b, 2, none⟩ = some (.slice (some ⟨gn2, 0, none⟩) r.nodes.length cn2) ∧ W.cell? ⟨w.heap.size, 4, none⟩ = some (.int .i64 (z : Int))) (first | (exact HKE.out _ _ T2.out.drew) | (exact HKE.out _ _ T3.out) | (exact HKE.out _ _ T4.out) | assumption)
        (first | (go_at_call 106; refine (HNG.out _).mono ?_; rintro e W5 ⟨rfl, hb⟩; have T3 := Lh (T2.out.drew.below hb); obtain ⟨⟨v9, u1⟩, u2, u3, u4, u5⟩ := HST.out _ T3.out; have T4 := Lh (T3.out.then ⟨u4, u5⟩); clear hb u4 u5))
       clear T2 T3 HKE HST HNG HQN hbl e2 a4 a0 z1 z2 z3 z3b z3c z3d z3e z4 hy0 hyb hz0 u1 u2 u3
       generalize World.setCell _ _ _ = W6 at *
       have F5 := Lh T4.out.fr
       clear T4
       have hsz := F5.out.size
       obtain ⟨_, _, _, _, _, _, _, _, _, _, _, _, _, _, _, _, _, _, _, _⟩ := row10_all F5.out.ans
       go_wp2_with fail
       refine fin10 Tryz.results67 rfl rfl F5.out.ans ?_
       · unfold OpD
         rw [HR.out]
         refine ⟨rfl, Q, ?_, rfl⟩
         repeat (refine DMid.other ?_ F5.out.nz (by omega) _ _)
         exact F5.out.mid
 have b6 : (c.k == 6) = false := by rw [beq_eq_false_iff_ne]; exact k6
 have HN6 := Lh k6
 clear k6
 by_cases k14 : c.k = 14
 · have HR0 := Lh k14
   obtain ⟨a0, a1, a2, a3, a4, a5, a6⟩ := row7_cells T2.out.fr.call
   obtain ⟨t0, t1, t2⟩ := T2.out.cells
   clear a1 a2 a3 a6 t0
   clear a5 a4 t2
   have HR := Lh (show throughR r c x many = ({ An.zero with st := r.stat x.n }, r) from by unfold throughR; rw [HR0.out]; rfl)
   have HST := Lh (fun W (hW : DocAt W Q r) => r22stat Q r x.n y W hW HF.out.nodes HF.out.ents HY.out.1 HF.out.enode)
   go_wp2_with fail
   refine (HST.out _ T2.out.fr.doc).mono ?_
   rintro e W4 ⟨rfl, hb⟩
   have F3 := Lh (T2.out.fr.below hb)
   clear hb T2 HST
   have hsz := F3.out.size
   generalize r.stat x.n = st at *
   obtain ⟨_, _, _, _, _, _, _, _, _, _, _, _, _, _, _, _, _, _, _, _⟩ := row10_all F3.out.ans
   go_wp2_with fail
   refine fin10 Tryz.results67 rfl rfl F3.out.ans ?_
   · unfold OpD
     rw [HR.out]
     refine ⟨rfl, Q, ?_, rfl⟩
     repeat (refine DMid.other ?_ F3.out.nz (by omega) _ _)
     exact F3.out.mid
 have b14 : (c.k == 14) = false := by rw [beq_eq_false_iff_ne]; exact k14
 have HN14 := Lh k14
 clear k14
 have HR := Lh (show throughR r c x many = (An.zero, r) from by
  unfold throughR
  split
  · exact absurd (by assumption) HN2.out
  · exact absurd (by assumption) HN3.out
  · exact absurd (by assumption) HN4.out
  · exact absurd (by assumption) HN5.out
  · exact absurd (by assumption) HN6.out
  · exact absurd (by assumption) HN14.out
  · rfl)
 have F3 := Lh T2.out.fr
 clear T2
 have hsz := F3.out.size
 obtain ⟨_, _, _, _, _, _, _, _, _, _, _, _, _, _, _, _, _, _, _, _⟩ := row10_all F3.out.ans
 go_wp2_with fail
 refine fin10 Tryz.results67 rfl rfl F3.out.ans ?_
 · unfold OpD
   rw [HR.out]
   refine ⟨rfl, Q, ?_, rfl⟩
   repeat (refine DMid.other ?_ F3.out.nz (by omega) _ _)
   exact F3.out.mid
end Go.Proofs.YtppdihpobokfnaaGreatDoor
