/- A part of a proof. -/
import Derived.Test.YtppdihpobokfnaaGreatDoorModW11
import Derived.Test.YtppdihpobokfnaaGreatDoorGPl3
set_option linter.unusedVariables false
set_option linter.unusedSimpArgs false
set_option maxRecDepth 100000
namespace Go.Proofs.YtppdihpobokfnaaGreatDoor
open Go.RowKit Go.Joins
theorem keeps_at48 (zs : List Int) (j : Nat) : Lib.keeps zs.toArray j = true ↔ (j = 0 ∨ zs[j]! ≠ zs[j-1]!) := by
 unfold Lib.keeps
 rw [decide_eq_true_iff]
 simp
theorem compact_strict48 (zs : List Int) (h : zs.Pairwise (· ≤ ·)) : (Lib.compact zs).Pairwise (· < ·) := by
 unfold Lib.compact Lib.compactUpTo
 rw [List.pairwise_map]
 refine (List.pairwise_lt_range.filter _).imp_of_mem ?_
 intro i j hi hj hij
 rw [List.mem_filter, List.mem_range] at hi hj
 have hk := hj.2
 rw [keeps_at48] at hk
 have hk : zs[j]! ≠ zs[j-1]! := by
  rcases hk with hk | hk
  · omega
  · exact hk
 rw [List.pairwise_iff_getElem] at h
 have h1 : zs[i]'hi.1 ≤ zs[j - 1]'(by omega) := by
  by_cases e : i = j - 1
  · subst e; exact Int.le_refl _
  · exact h i (j - 1) hi.1 (by omega) (by omega)
 have h2 := h (j - 1) j (by omega) hj.1 (by omega)
 simp [hj.1, show j - 1 < zs.length by omega] at hk
 simp [hi.1, hj.1]
 omega
theorem nodes_rise (T : List Sl) : (nodesOf T).Pairwise (· < ·) := by
 refine compact_strict48 _ ?_
 have := List.pairwise_mergeSort (le := fun x y : Int => decide (x ≤ y)) (fun a b c => by simp; omega) (fun a b => by simp; omega) (openN T 16)
 exact this.imp (fun h => by simpa using h)
def againTo (m : Md) (i : Nat) : Md := ((nodesOf m.tab).take i).foldl (fun m k => goneP m k.toNat) { m with tab := zeroT }
theorem againTo_all (m : Md) : againTo m (nodesOf m.tab).length = againP m := by unfold againTo; rw [List.take_length]; rfl
theorem againTo_succ {m : Md} {i : Nat} {z : Int} (h : (nodesOf m.tab)[i]? = some z) : againTo m (i + 1) = goneP (againTo m i) z.toNat := by
 unfold againTo
 rw [List.take_add_one, h, List.foldl_append]
 rfl
theorem look_goneP {m : Md} {k j : Nat} (h : j ≠ k) : lookK (goneP m k).nodes j = lookK m.nodes j := by
 unfold goneP
 split
 · rw [lookK_filter, if_neg h]
 · rfl
theorem look_againTo {m : Md} {i : Nat} {z : Int} {k : Nat} (hz : (nodesOf m.tab)[i]? = some z) (hk : z = (k : Int)) (h0 : ∀ y ∈ nodesOf m.tab, 0 ≤ y) : ∀ n, n ≤ i → lookK (againTo m n).nodes k = lookK m.nodes k
 | 0, _ => rfl
 | n + 1, hn => by
  obtain ⟨hi, ei⟩ := List.getElem?_eq_some_iff.1 hz
  have hr := List.pairwise_iff_getElem.1 (nodes_rise m.tab) n i (by omega) hi (by omega)
  have hy0 := h0 _ (List.getElem_mem (show n < (nodesOf m.tab).length by omega))
  rw [againTo_succ (List.getElem?_eq_getElem (by omega)), look_goneP (by omega)]
  exact look_againTo hz hk h0 n (by omega)
theorem again_node {N : Nat} {m : Md} (hI : Inv N Nul m) {i : Nat} {z : Int} (hz : (nodesOf m.tab)[i]? = some z) : ∃ (k : Nat) (d : Nd), z = (k : Int) ∧ lookK (againTo m i).nodes k = some d ∧ lookK m.nodes k = some d := by
 have hall : ∀ y ∈ nodesOf m.tab, ∃ (k : Nat) (d : Nd), y = (k : Int) ∧ lookK m.nodes k = some d := fun y hy => by
  obtain ⟨fd, s, h1, h2⟩ := has_slotOf hI.tab16 ((mem_nodesOf hI.tab16).1 hy)
  obtain ⟨_, _, k, d, h3, h4, _⟩ := hI.tab fd s h1
  exact ⟨k, d, by omega, h4⟩
 obtain ⟨k, d, e, hd⟩ := hall z (List.mem_of_getElem? hz)
 refine ⟨k, d, e, ?_, hd⟩
 rw [look_againTo hz e (fun y hy => by obtain ⟨k, _, e, _⟩ := hall y hy; omega) i (Nat.le_refl _)]
 exact hd
def Rp.retab (R : Rp) (K : Nat) : Rp := { R with tb := K, L := fun b => if b = K then some .table else R.L b }
section
variable {W W1 : World} {R : Rp} {m : Md} {K : Nat} {T : List Sl}
theorem retab_L (R : Rp) {K b : Nat} (h : b ≠ K) : (R.retab K).L b = R.L b := if_neg h
theorem MdAt.retab (h : MdAt W R m) (hb : Below W.heap.size W W1) (ht : TabAt W1 K true T) (hK : W.heap.size ≤ K) : Mid W R.L (W1.setCell ⟨R.mb, 4, none⟩ (ptrTo K)) (R.retab K) { m with tab := T } := by
 have h1 := h.below hb (Nat.le_refl _)
 have hlab : ∀ b x, R.L b = some x → b ≠ K := fun b x e q => by have := h.old b (by rw [e]; simp); omega
 have hL : ∀ b x, R.L b = some x → (R.retab K).L b = some x := fun b x e => by rw [retab_L R (hlab b x e)]; exact e
 have hne : ∀ b x, R.L b = some x → x ≠ .model → (W1.setCell ⟨R.mb, 4, none⟩ (ptrTo K)).heap[b]? = W1.heap[b]? := fun b x e hx => Below.heap_setCell _ _ _ _ (fun q => by rw [q, h.lm] at e; injection e with e; exact hx e.symm)
 have hKm : K ≠ R.mb := fun q => hlab _ _ h.lm q.symm
 have hT : TabAt (W1.setCell ⟨R.mb, 4, none⟩ (ptrTo K)) K true T := ⟨ht.1, ht.2.same (Below.heap_setCell _ _ _ _ hKm)⟩
 refine ⟨⟨hL _ _ h.lm, hL _ _ h.ln, if_pos rfl, h1.row.set 4 _, hT, owns_same h1.map (hne _ _ h.ln (by simp)), h.ids, fun j x hj => ?_, fun b hb' => ?_⟩, fun b hb' => retab_L R (by omega), ⟨hb.os, hb.tape, hb.output, by simpa [World.setCell] using hb.size, fun b hlt hn => ?_⟩⟩
 · have hn := h1.nodes j x hj
   exact ⟨hL _ _ hn.lab, hn.row.same (hne _ _ hn.lab (by simp)), ownsRow_same hn.bytes (fun b q => hne _ _ (hn.own b q) (by simp)), fun b q => hL _ _ (hn.own b q), fun hd => ⟨hL _ _ (hn.names hd).1, owns_same (hn.names hd).2 (hne _ _ (hn.names hd).1 (by simp))⟩, hn.void⟩
 · by_cases c : b = K
   · rw [c]; exact hT.lt
   · rw [retab_L R c] at hb'
     have := h.old b hb'
     have := hb.size
     simp [World.setCell]; omega
 · exact (Below.heap_setCell _ _ _ _ (fun q => by rw [q, h.lm] at hn; cases hn)).trans (hb.block b hlt)
end
set_option maxHeartbeats 4000000 in
theorem magain {N : Nat} (R : Rp) (m : Md) (w : World) (h : MdAt w R m) (hI : Inv N Nul m) (hN : N ≤ 900000) :
  Calls Tryz.prog 32 #[.pointer (some ⟨R.mb, 0, none⟩)] w (StepR w R (againP m)) := by
 have HI := Lh (And.intro hI (hI.good hN))
 have HM := Lh h
 obtain ⟨m0, m1, m2, m3, m4⟩ := h.cells
 have HN := Lh (mnone_row R.mb true w m0)
 have HND := Lh (hnodes R.tb m.tab w h.tab)
 have hml := h.row.lt
 have HAL := Lh (againTo_all m)
 clear h hI
 go_enter Tryz.func32, Tryz.ntmps32
 go_wp2_with fail
 refine HN.out.mono ?_
 rintro e W0 ⟨rfl, rfl⟩
 go_wp2_with fail
 refine HND.out.mono ?_
 rintro e W1 ⟨a, cap, rfl, hn, hb⟩
 obtain ⟨g, hg⟩ : ∃ g, nodesOf m.tab ≠ [] → a = some ⟨g, 0, none⟩ ∧ RowAt W1 g ((nodesOf m.tab).map (Value.int .i64)) ∧ w.heap.size ≤ g := by
  rcases hn with hn | ⟨g, e, h1, h2⟩
  · exact ⟨0, fun q => absurd (by simpa using hn) q⟩
  · exact ⟨g, fun _ => ⟨e, h2, h1⟩⟩
 have HG := Lh (And.intro hg hb)
 clear hn hb hg m0 m1 m2 m3 m4 HN HND
 go_wp2_with fail
 refine (hnew W1).mono ?_
 rintro e W2 ⟨rfl, ht, hb2⟩
 have hb3 := HG.out.2.trans (hb2.mono HG.out.2.size)
 have HR := Lh (MdAt.retab HM.out hb3 ht HG.out.2.size)
 have h2 := HM.out.below hb3 (Nat.le_refl _)
 have m4 := h2.cells.2.2.2.2
 have f4 := h2.row.frozen 4 (by simp)
 have hml2 := h2.row.lt
 have HG2 := Lh (fun hne => (show RowAt (W2.setCell ⟨R.mb, 4, none⟩ (ptrTo W1.heap.size)) g ((nodesOf m.tab).map (Value.int .i64)) ∧ (R.retab W1.heap.size).L g = none from by
  obtain ⟨_, q2, q3⟩ := HG.out.1 hne
  have hgm : g ≠ R.mb := by omega
  exact ⟨(q2.below hb2 q2.lt).same (Below.heap_setCell _ _ _ _ hgm), by rw [retab_L R (by have := q2.lt; omega)]; exact HM.out.fresh q3⟩))
 have HA0 := Lh (fun hne => (HG.out.1 hne).1)
 clear ht hb2 hb3 h2 HG
 unfold ptrTo at HR HG2
 go_upto_region 3 with fail
 generalize World.setCell W2 _ _ = W3 at *
 generalize hRT : R.retab W1.heap.size = R3 at *
 have HB3 := Lh (show R3.mb = R.mb from by rw [← hRT]; rfl)
 have HR0 := Lh (show Mid w R.L W3 R3 (againTo m 0) from HR.out)
 have HLN := Lh (show (nodesOf m.tab).length ≤ 1000 from by
  have := Lib.compact_length_le ((openN m.tab 16).mergeSort fun x y => decide (x ≤ y))
  rw [List.length_mergeSort] at this
  have h2 : (openN m.tab 16).length ≤ 16 := by unfold openN; rw [List.length_map]; exact Nat.le_trans (List.length_filter_le ..) (List.length_take_le ..)
  show (Lib.compact _).length ≤ 1000
  omega)
 clear m4 f4 hml2 hRT HR HM hml
 generalize hZS : nodesOf m.tab = zs at *
 have hl9 : (zs.length : Int) ≤ 1000 := by have := HLN.out; omega
 go_wp2_with fail
 go_loopw [4, 18] (fun _ jj wr => ∃ (i : Nat) (R2 : Rp), i ≤ zs.length ∧ jj = .int .i64 (i : Int) ∧ Hid (Mid w R.L wr R2 (againTo m i) ∧ R2.mb = R.mb ∧ (zs ≠ [] → RowAt wr g (zs.map (Value.int .i64)) ∧ R2.L g = none))) (fun _ jj _ => zs.length - (intOf jj).toNat)
 case atStart => exact ⟨0, R3, by omega, rfl, Lh ⟨HR0.out, HB3.out, HG2.out⟩⟩
 case round =>
  obtain ⟨i, R2, hi, rfl, HS⟩ := hrel
  by_cases hlt : i < zs.length
  · have hne : zs ≠ [] := fun e => by rw [e] at hlt; simp at hlt
    obtain ⟨z, hz⟩ : ∃ z, zs[i]? = some z := ⟨_, List.getElem?_eq_getElem hlt⟩
    obtain ⟨k, d, rfl, hd, hd0⟩ := again_node HI.out.1 (by rw [hZS]; exact hz)
    obtain ⟨hrw, hlg⟩ := HS.out.2.2 hne
    obtain rfl := HA0.out hne
    have cz : wr.cell? ⟨g, i, none⟩ = some (.int .i64 (k : Int)) := by rw [hrw.cell i (by simpa using hlt), List.getElem?_map, hz]; rfl
    have hgl := hrw.lt
    have HGO := Lh (mgone R2 (againTo m i) k d wr HS.out.1.md hd (HI.out.2.small hd0))
    rw [HS.out.2.1] at HGO
    have HSU := Lh (againTo_succ (show (nodesOf m.tab)[i]? = some (k : Int) from by rw [hZS]; exact hz))
    rw [Int.toNat_natCast] at HSU
    have i1 : (i : Int) < (zs.length : Int) := by omega
    have i0 : (0 : Int) ≤ (i : Int) := by omega
    have HRG := Lh (And.intro hrw hlg)
    have hii : i + 1 ≤ zs.length := hlt
    clear hz hd hd0 hrw hlg hne hlt
    go_wp2_with fail
    refine HGO.out.mono ?_
    rintro e W5 ⟨rfl, R5, hM5, hmb5⟩
    have H5 := Lh (show Mid w R.L W5 R5 (againTo m (i + 1)) ∧ R5.mb = R.mb ∧ (zs ≠ [] → RowAt W5 g (zs.map (Value.int .i64)) ∧ R5.L g = none) from ⟨by rw [HSU.out]; exact HS.out.1.then hM5, hmb5.trans HS.out.2.1, fun _ => hM5.row HRG.out.1 HRG.out.2⟩)
    clear hM5 hmb5 HGO cz hgl i1
    go_wp2_with fail
    go_roundw
    case rel => exact ⟨i + 1, R5, hii, by go_num, H5⟩
    case measure => simp [intOf]; omega
  · obtain rfl : i = zs.length := by omega
    have hnl : ¬ ((zs.length : Int) < (zs.length : Int)) := by omega
    go_wp2_with fail
    go_end0
    exact ⟨rfl, R2, by rw [← HAL.out]; exact HS.out.1, HS.out.2.1⟩
set_option maxHeartbeats 4000000 in
theorem mshort (R : Rp) (m : Md) (c : Cl) (n : Int) (w : World) (h : MdAt w R m) (hG : Good m) (hd : c.d.size ≤ 1000000) :
  Calls Tryz.prog 27 #[.pointer (some ⟨R.mb, 0, none⟩), .agg #[.int .i64 c.k, .string c.p, .string c.o, .int .i64 c.fd, .int .i64 c.n, .string c.d, .bool c.on], .int .i64 n] w (OpR w R (shortP m c n)) := by
 have hdz : (c.d.size : Int) ≤ 1000000 := by omega
 clear hd
 have HP := Lh (fun W (hW : MdAt W R m) many (hm : many ≤ c.d.size) => mput R m c many W hW hG hm)
 clear hG
 have F0 := Fr.start h c 36 33
 go_enter Tryz.func27, Tryz.ntmps27
 go_upto_region 1 with fail
 generalize (w.alloc (.cells #[.int .i64 c.k, .string c.p, .string c.o, .int .i64 c.fd, .int .i64 c.n, .string c.d, .bool c.on] 36)).alloc (.cells #[.int .i64 0, .int .i64 0, .string ⟨#[]⟩, .slice none 0 0, .int .i64 0, .int .i64 0, .int .i64 0, .bool false, .slice none 0 0, .bool false] 33) = W1 at *
 have F1 := Lh F0
 clear F0
 obtain ⟨a0, a1, a2, a3, a4, a5, a6⟩ := row7_cells F1.out.call
 obtain ⟨m0, m1, m2, m3, m4⟩ := F1.out.md.cells
 have HN := Lh (mnone_row R.mb true W1 m0)
 have hsz := F1.out.size
 clear m0 m1 m2 m3 m4
 by_cases k4 : c.k = 4
 · have b4 : (c.k != 4) = false := by rw [k4]; rfl
   have b4' : (c.k == 4) = true := by rw [beq_iff_eq]; exact k4
   have HK := Lh k4
   clear k4
   by_cases hn : n < 0
   · have HR := Lh (show shortP m c n = (failA 2, m) from by rw [shortP, if_pos (.inr (.inl hn))])
     go_wp2_with fail
     refine HN.out.mono ?_
     rintro e W2 ⟨rfl, rfl⟩
     go_wp2_with fail
     refine (mfailed _ _).mono ?_
     rintro e W3 ⟨rfl, hb⟩
     have F3 := Lh (F1.out.below hb)
     clear hb F1
     obtain ⟨_, _, _, _, _, _, _, _, _, _, _, _, _, _, _, _, _, _, _, _⟩ := row10_all F3.out.ans
     unfold failV anV Stt.zero
     go_wp2_with fail
     refine fin10 Tryz.results27 rfl rfl F3.out.ans ?_
     · unfold OpR
       rw [HR.out]
       refine ⟨rfl, R, ?_, rfl⟩
       repeat (refine Mid.other ?_ F3.out.nz (by omega) _ _)
       exact F3.out.mid
   · by_cases hs : (c.d.size : Int) < n
     · have HR := Lh (show shortP m c n = (failA 2, m) from by rw [shortP, if_pos (.inr (.inr hs))])
       go_wp2_with fail
       refine HN.out.mono ?_
       rintro e W2 ⟨rfl, rfl⟩
       go_wp2_with fail
       refine (mfailed _ _).mono ?_
       rintro e W3 ⟨rfl, hb⟩
       have F3 := Lh (F1.out.below hb)
       clear hb F1
       obtain ⟨_, _, _, _, _, _, _, _, _, _, _, _, _, _, _, _, _, _, _, _⟩ := row10_all F3.out.ans
       unfold failV anV Stt.zero
       go_wp2_with fail
       refine fin10 Tryz.results27 rfl rfl F3.out.ans ?_
       · unfold OpR
         rw [HR.out]
         refine ⟨rfl, R, ?_, rfl⟩
         repeat (refine Mid.other ?_ F3.out.nz (by omega) _ _)
         exact F3.out.mid
     · obtain ⟨z, hz⟩ : ∃ z : Nat, n = (z : Int) := ⟨n.toNat, by omega⟩
       subst hz
       have HR := Lh (show shortP m c (z : Int) = putP m c z from by rw [shortP, if_neg (by rw [HK.out]; omega), Int.toNat_natCast])
       have HPP := Lh (fun W hW => HP.out W hW z (by omega))
       go_wp2_with fail
       refine HN.out.mono ?_
       rintro e W2 ⟨rfl, rfl⟩
       go_wp2_with fail
       refine (HPP.out _ F1.out.md).mono ?_
       rintro e W2 ⟨rfl, R9, hM, hmb⟩
       clear HP HPP a0 a1 a2 a3 a4 a5 a6 HN hsz
       have F3 := Lh (F1.out.then hM)
       have HMB := Lh hmb
       clear hM hmb F1
       have hsz := F3.out.size
       generalize putP m c z = r at *
       obtain ⟨_, _, _, _, _, _, _, _, _, _, _, _, _, _, _, _, _, _, _, _⟩ := row10_all F3.out.ans
       unfold ansC
       go_wp2_with fail
       refine fin10 Tryz.results27 rfl rfl F3.out.ans ?_
       · unfold OpR
         rw [HR.out]
         refine ⟨by unfold ansC; rfl, R9, ?_, HMB.out⟩
         repeat (refine Mid.other ?_ F3.out.nz (by omega) _ _)
         exact F3.out.mid
 · have b4 : (c.k != 4) = true := by rw [bne_iff_ne]; exact k4
   have b4' : (c.k == 4) = false := by rw [beq_eq_false_iff_ne]; exact k4
   have HR := Lh (show shortP m c n = (failA 2, m) from by rw [shortP, if_pos (.inl k4)])
   clear k4
   go_wp2_with fail
   refine HN.out.mono ?_
   rintro e W2 ⟨rfl, rfl⟩
   go_wp2_with fail
   refine (mfailed _ _).mono ?_
   rintro e W3 ⟨rfl, hb⟩
   have F3 := Lh (F1.out.below hb)
   clear hb F1
   obtain ⟨_, _, _, _, _, _, _, _, _, _, _, _, _, _, _, _, _, _, _, _⟩ := row10_all F3.out.ans
   unfold failV anV Stt.zero
   go_wp2_with fail
   refine fin10 Tryz.results27 rfl rfl F3.out.ans ?_
   · unfold OpR
     rw [HR.out]
     refine ⟨rfl, R, ?_, rfl⟩
     repeat (refine Mid.other ?_ F3.out.nz (by omega) _ _)
     exact F3.out.mid
end Go.Proofs.YtppdihpobokfnaaGreatDoor
