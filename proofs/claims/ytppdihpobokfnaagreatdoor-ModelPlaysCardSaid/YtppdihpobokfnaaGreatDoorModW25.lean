/- A part of a proof. -/
import Derived.Test.YtppdihpobokfnaaGreatDoorGW
import Derived.Test.YtppdihpobokfnaaGreatDoorIter
set_option linter.unusedVariables false
set_option linter.unusedSimpArgs false
set_option maxRecDepth 100000
namespace Go.Proofs.YtppdihpobokfnaaGreatDoor
open Go.RowKit Go.Joins
open Go.Maps Go.Sort
theorem keys_sorted {n : List (Bs × Nat)} {ss : List Bs} (hp : n.Pairwise fun x y => x.1 ≤ y.1) (h : ss.Perm (strKeys (namD n))) : ss.mergeSort (fun x y => decide (x ≤ y)) = n.map (·.1) := by
 have hk : strKeys (namD n) = n.map (·.1) := by
  unfold namD
  simp [strKeys, List.map_map, Function.comp_def, strOf]
 rw [hk] at h
 have tr : ∀ a b c : Bs, decide (a ≤ b) = true → decide (b ≤ c) = true → decide (a ≤ c) = true := fun a b c h1 h2 => by
  simp only [decide_eq_true_eq] at *
  exact List.le_trans h1 h2
 have to : ∀ a b : Bs, (decide (a ≤ b) || decide (b ≤ a)) = true := fun a b => by
  simp only [Bool.or_eq_true, decide_eq_true_eq]
  exact List.le_total a b
 refine List.Perm.eq_of_pairwise (le := fun a b => decide (a ≤ b) = true) (fun a b _ _ h1 h2 => ?_) (List.pairwise_mergeSort tr to ss) ?_ ((List.mergeSort_perm ss _).trans h)
 · simp only [decide_eq_true_eq] at h1 h2
   exact List.le_antisymm h1 h2
 · rw [List.pairwise_map]
   exact hp.imp fun h => by simpa using h
theorem strs_enc (n : List (Bs × Nat)) : (n.map (·.1)).map encStr = strs ((n.map (·.1)).map tx) := by
 simp [strs, List.map_map, Function.comp_def, tx, encStr]
theorem row_list {W : World} {R : Rp} {base : Nat} {e : TypeId} {v : Value} {xs : List Value} (h : W.ownsRow base e 1 v xs.length xs) (hl : ∀ b, base ≤ b → R.L b = none) : (xs = [] ∧ v = nilS) ∨ ∃ g cap, v = .slice (some ⟨g, 0, none⟩) xs.length cap ∧ RowAt W g xs ∧ R.L g = none ∧ base ≤ g := by
 obtain ⟨h1, h2⟩ := h
 rcases h2 with ⟨rfl, h2⟩ | ⟨g, cap, cur, rfl, hg, hc, hn, hm, hs, ht⟩
 · exact .inl ⟨List.length_eq_zero_iff.1 h2, rfl⟩
 · refine .inr ⟨g, cap, rfl, ⟨cur, _, 0, 0, hc, fun i hi => ?_, fun i hi => by omega⟩, hl g hg, hg⟩
   rw [Nat.mul_one] at ht
   rw [← Array.getElem?_toList]
   have h9 : (cur.toList.take xs.length)[i]? = xs[i]? := by rw [ht]
   rw [List.getElem?_take_of_lt hi] at h9
   exact h9
set_option maxHeartbeats 4000000 in
theorem mlist (R : Rp) (m : Md) (c : Cl) (w : World) (h : MdAt w R m) (hG : Good m) (hS : ∀ k d, lookK m.nodes k = some d → d.names.Pairwise fun x y => x.1 ≤ y.1) :
  Calls Tryz.prog 48 #[.pointer (some ⟨R.mb, 0, none⟩), .agg #[.int .i64 c.k, .string c.p, .string c.o, .int .i64 c.fd, .int .i64 c.n, .string c.d, .bool c.on]] w (OpG w R (listP m c, m)) := by
 have HG := Lh hG
 have HF := Lh (fun W (hW : MdAt W R m) => mfind R m c.p W hW hG)
 obtain ⟨k, z, hq⟩ : ∃ k z, findP m (bts c.p) = (k, z) := ⟨_, _, rfl⟩
 rw [hq] at HF
 have HQ := Lh hq
 have HSO := Lh hS
 clear hG hS
 by_cases hz : z = 0
 · subst hz
   obtain ⟨d, hd⟩ := findP_there HG.out (p := bts c.p) (by rw [hq])
   rw [hq] at hd
   have HK := Lh (show lookK m.nodes k = some d from hd)
   clear hd hq
   have F0 := Fr.start h c 36 33
   go_enter Tryz.func48, Tryz.ntmps48
   go_upto_region 1 with fail
   generalize (w.alloc (.cells #[.int .i64 c.k, .string c.p, .string c.o, .int .i64 c.fd, .int .i64 c.n, .string c.d, .bool c.on] 36)).alloc (.cells #[.int .i64 0, .int .i64 0, .string ⟨#[]⟩, .slice none 0 0, .int .i64 0, .int .i64 0, .int .i64 0, .bool false, .slice none 0 0, .bool false] 33) = W1 at *
   have F1 := Lh F0
   clear F0
   obtain ⟨a0, a1, a2, a3, a4, a5, a6⟩ := row7_cells F1.out.call
   obtain ⟨m0, m1, m2, m3, m4⟩ := F1.out.md.cells
   go_wp2_with fail
   refine (HF.out _ F1.out.md).mono ?_
   rintro e W2 ⟨rfl, hb⟩
   have F2 := Lh (F1.out.below hb)
   clear hb F1 HF a0 a1 a2 a3 a4 a5 a6 m0 m1 m2 m3 m4
   obtain ⟨m0, m1, m2, m3, m4⟩ := F2.out.md.cells
   have hl := F2.out.md.look HK.out (by have := HG.out.small HK.out; omega)
   obtain ⟨e0, e1, e2, e3, e4, e5⟩ := (F2.out.md.nodes _ _ HK.out).cells
   by_cases hk : d.kind = 2
   · have hk1 : (d.kind != 2) = false := by rw [bne_eq_false_iff_eq]; exact hk
     have HR := Lh (show listP m c = { An.zero with names := d.names.map (·.1) } from by rw [listP, HQ.out]; simp only []; rw [if_neg (by simp), Md.get_look HK.out, if_neg (by simpa using hk)])
     rw [if_pos hk] at e4
     have HO := Lh (Tryz.slices_Sorted_keys_102_103 (R.nb k) d.names.length (namD d.names) (plainElem (H := Value) Tryz.prog 3) W2 ((F2.out.md.nodes _ _ HK.out).names hk).2 (by rw [namD_size]; have := HG.out.nlen _ _ HK.out; unfold maxLen; omega) (by rw [namD_size]; have := HG.out.nlen _ _ HK.out; omega))
     go_wp2_with fail
     refine (callsIn_wide.1 (Tryz.maps_Keys_103 (some (R.nb k)) _)).mono ?_
     rintro e W3 ⟨rfl, hw3⟩
     subst hw3
     go_wp2_with fail
     refine (callsIn_wide.1 HO.out).mono ?_
     rintro e W4 ⟨v, ss, rfl, hperm, hrow, hnil, hb⟩
     have F3 := F2.out.alloc (.cells #[.map (some (R.nb k))] 77)
     have F4 := Lh (F3.below hb)
     rw [keys_sorted (HSO.out k d HK.out) hperm, strs_enc] at hrow
     have hlen : ss.length = (strs ((d.names.map (·.1)).map tx)).length := by
      have := hperm.length_eq
      simp [strKeys, namD, strs] at this ⊢
      exact this
     rw [hlen] at hrow
     have HLS := Lh (row_list (R := R) hrow (fun b hb9 => F3.md.fresh hb9))
     have HBZ := F3.size
     clear hperm hrow hnil hb hlen F3 F2 HO hl m0 m1 m2 m3 m4 e0 e1 e2 e3 e4 e5
     rcases HLS.out with ⟨hxs, hv⟩ | ⟨g, cap, hv, hr, hn, hg⟩
     · subst hv
       have HXS := Lh hxs
       clear hxs HLS
       obtain ⟨_, _, _, _, _, _, _, _, _, _, _, _, _, _, _, _, _, _, _, _⟩ := row10_all F4.out.ans
       go_wp2_with fail
       refine fin10 Tryz.results48 rfl rfl F4.out.ans ?_
       · unfold OpG
         rw [HR.out]
         refine ⟨nilS, nilS, rfl, R, ?_, rfl, .inl ⟨HXS.out, rfl⟩, .inl ⟨rfl, rfl⟩⟩
         repeat (refine Mid.other ?_ F4.out.nz (by omega) _ _)
         exact F4.out.mid
     · subst hv
       have HRW := Lh hr
       have HGN := Lh (And.intro hn (And.intro hg HBZ))
       obtain ⟨N, hN⟩ : ∃ N, N = (strs ((d.names.map (·.1)).map tx)).length := ⟨_, rfl⟩
       rw [← hN]
       have HN := Lh hN
       clear hr hn hg HLS hN HBZ
       obtain ⟨_, _, _, _, _, _, _, _, _, _, _, _, _, _, _, _, _, _, _, _⟩ := row10_all F4.out.ans
       go_wp2_with fail
       refine fin10 Tryz.results48 rfl rfl F4.out.ans ?_
       · unfold OpG
         rw [HR.out]
         refine ⟨.slice (some ⟨g, 0, none⟩) N cap, nilS, rfl, R, ?_, rfl, .inr ⟨g, cap, by rw [HN.out], ?_, HGN.out.1, by have := HGN.out; omega⟩, .inl ⟨rfl, rfl⟩⟩
         · repeat (refine Mid.other ?_ F4.out.nz (by omega) _ _)
           exact F4.out.mid
         · have hne : g ≠ w.heap.size + 1 := by have := HGN.out; omega
           repeat (refine RowAt.other ?_ _ _ hne)
           exact HRW.out
   · have hk1 : (d.kind != 2) = true := by rw [bne_iff_ne]; exact hk
     have HR := Lh (show listP m c = failA 212 from by rw [listP, HQ.out]; simp only []; rw [if_neg (by simp), Md.get_look HK.out, if_pos hk])
     clear hk
     go_wp2_with fail
     refine (mfailed _ _).mono ?_
     rintro e W3 ⟨rfl, hb⟩
     have F3 := Lh (F2.out.below hb)
     clear hb F2
     obtain ⟨_, _, _, _, _, _, _, _, _, _, _, _, _, _, _, _, _, _, _, _⟩ := row10_all F3.out.ans
     unfold failV anV Stt.zero
     go_wp2_with fail
     refine fin10 Tryz.results48 rfl rfl F3.out.ans ?_
     · unfold OpG
       rw [HR.out]
       refine ⟨nilS, nilS, rfl, R, ?_, rfl, .inl ⟨rfl, rfl⟩, .inl ⟨rfl, rfl⟩⟩
       repeat (refine Mid.other ?_ F3.out.nz (by omega) _ _)
       exact F3.out.mid
 · have HR := Lh (show listP m c = failA z from by rw [listP, HQ.out]; simp only []; rw [if_pos hz])
   have hz1 : (z != 0) = true := by rw [bne_iff_ne]; exact hz
   clear hz hq
   have F0 := Fr.start h c 36 33
   go_enter Tryz.func48, Tryz.ntmps48
   go_upto_region 1 with fail
   generalize (w.alloc (.cells #[.int .i64 c.k, .string c.p, .string c.o, .int .i64 c.fd, .int .i64 c.n, .string c.d, .bool c.on] 36)).alloc (.cells #[.int .i64 0, .int .i64 0, .string ⟨#[]⟩, .slice none 0 0, .int .i64 0, .int .i64 0, .int .i64 0, .bool false, .slice none 0 0, .bool false] 33) = W1 at *
   have F1 := Lh F0
   clear F0
   obtain ⟨a0, a1, a2, a3, a4, a5, a6⟩ := row7_cells F1.out.call
   obtain ⟨m0, m1, m2, m3, m4⟩ := F1.out.md.cells
   go_wp2_with fail
   refine (HF.out _ F1.out.md).mono ?_
   rintro e W2 ⟨rfl, hb⟩
   have F2 := Lh (F1.out.below hb)
   clear hb F1 HF a0 a1 a2 a3 a4 a5 a6 m0 m1 m2 m3 m4
   go_wp2_with fail
   refine (mfailed _ _).mono ?_
   rintro e W3 ⟨rfl, hb⟩
   have F3 := Lh (F2.out.below hb)
   clear hb F2
   obtain ⟨_, _, _, _, _, _, _, _, _, _, _, _, _, _, _, _, _, _, _, _⟩ := row10_all F3.out.ans
   unfold failV anV Stt.zero
   go_wp2_with fail
   refine fin10 Tryz.results48 rfl rfl F3.out.ans ?_
   · unfold OpG
     rw [HR.out]
     refine ⟨nilS, nilS, rfl, R, ?_, rfl, .inl ⟨rfl, rfl⟩, .inl ⟨rfl, rfl⟩⟩
     repeat (refine Mid.other ?_ F3.out.nz (by omega) _ _)
     exact F3.out.mid
end Go.Proofs.YtppdihpobokfnaaGreatDoor
