/- A part of a proof. -/
import Derived.Test.YtppdihpobokfnaaGreatDoorGR2
import Derived.Laws.AppendOwnNone
import Derived.Deep.DeepCutAuto
import Derived.Deep.CutBlock
set_option linter.unusedVariables false
set_option linter.unusedSimpArgs false
set_option maxRecDepth 100000
namespace Go.Proofs.YtppdihpobokfnaaGreatDoor
open Go.RowKit Go.Joins
def nmC (l : List Bs) : List Value := strs (l.map tx)
theorem nmC_len (l : List Bs) : (nmC l).length = l.length := by simp [nmC, strs]
theorem nmC_at {l : List Bs} {j : Nat} {y : Bs} (h : l[j]? = some y) : (nmC l)[j]? = some (.string (tx y)) := by simp [nmC, strs, List.getElem?_map, h]
theorem nmC_one {l : List Bs} : ∀ u ∈ nmC l, u.oneCell' = true := by
 intro u hu
 simp [nmC, strs] at hu
 obtain ⟨a, _, rfl⟩ := hu
 rfl
theorem nmC_take (l : List Bs) (m : Nat) : nmC (l.take m) = (nmC l).take m := by simp [nmC, strs, List.map_take]
theorem nmC_drop (l : List Bs) (m : Nat) : nmC (l.drop m) = (nmC l).drop m := by simp [nmC, strs, List.map_drop]
theorem nmC_mid (l : List Bs) (m : Nat) (x : Bs) : nmC (l.take m) ++ (.string (tx x) :: nmC (l.drop m)) = nmC (l.take m ++ x :: l.drop m) := by simp [nmC, strs]
theorem row_from {w : World} {g : Nat} {xs : List Value} (h : RowAt w g xs) (o : Nat) : ∀ j u, (xs.drop o)[j]? = some u → w.cell? ⟨g, o + j, none⟩ = some u := by
 intro j u hu
 rw [List.getElem?_drop] at hu
 rw [h.cell _ (List.getElem?_eq_some_iff.1 hu).1, hu]
theorem less_tx (a b : Bs) : Op.bytesLess (tx a).toList (tx b).toList = bytesBefore a b := by
 rw [show (tx a).toList = a from (Lib.toList_data _).trans rfl, show (tx b).toList = b from (Lib.toList_data _).trans rfl, less_before]
def NamesRP (ns : List Bs) (w : World) (e : Ending) (w' : World) : Prop := ∃ a cap, e = .returned (.slice a ns.length cap) ∧ w'.ownsRow w.heap.size 9 1 (.slice a ns.length cap) ns.length (nmC ns) ∧ Below w.heap.size w w'
set_option maxHeartbeats 16000000 in
theorem r22names (Q : Rr) (r : RM) (id : Nat) (w : World) (h : DocAt w Q r) (hm : r.ents.length ≤ 1000000) : Calls Tryz.prog 115 #[.pointer (some ⟨Q.b, 0, none⟩), .int .i64 (id : Int)] w (NamesRP (namesR r id) w) := by
 have HD := Lh h
 have HAL := Lh (namesTo_all r id)
 obtain ⟨i0, hi, hz0, hz1, hz2⟩ := info_parts info_str
 have HI := Lh (And.intro hi (And.intro hz0 (And.intro hz1 hz2)))
 obtain ⟨ae, ce, hve⟩ := own_form5 h.ents
 have HV3 := Lh hve
 have hm1 : (r.ents.length : Int) ≤ 1000000 := by omega
 clear h hi hz0 hz1 hz2 hve hm
 go_enter Tryz.func115, Tryz.ntmps115
 go_wp2_with fail
 go_loopw [5, 6, 7, 8] (fun oo jj _ _ wr => ∃ (k : Nat) (a : Option Addr) (cap : Nat) (L : List Bs), k ≤ r.ents.length ∧ jj = .int .i64 (k : Int) ∧ oo = .slice a L.length cap ∧ Hid (L = namesTo r id k ∧ wr.ownsRow w.heap.size 9 1 (.slice a L.length cap) L.length (nmC L) ∧ Below w.heap.size w wr)) (fun _ jj _ _ _ => r.ents.length - (intOf jj).toNat)
 case atStart => exact ⟨0, none, 0, [], by omega, rfl, rfl, Lh ⟨rfl, World.ownsRow_nil _ _ _ _, Below.refl _ _⟩⟩
 case round =>
  obtain ⟨k, a, cap, L, hk, rfl, rfl, HK⟩ := hrel
  have HDW := Lh (HD.out.below HK.out.2.2)
  obtain ⟨_, _, _, e3, _⟩ := HDW.out.cells
  rw [HV3.out] at e3
  have hbl := HDW.out.row.lt
  by_cases hlt : k < r.ents.length
  · obtain ⟨x, hx⟩ : ∃ x, r.ents[k]? = some x := ⟨_, List.getElem?_eq_getElem hlt⟩
    obtain ⟨gy, cy, qy, _, c00, c01, c02⟩ := HDW.out.ent hx
    rw [HV3.out] at qy
    injection qy with qy _ _
    subst qy
    have h1 : (k : Int) < (r.ents.length : Int) := by omega
    have h0 : (0 : Int) ≤ (k : Int) := by omega
    have HX := Lh hx
    have hLl : L.length ≤ k := by rw [HK.out.1]; exact namesTo_len r id k
    have hkk : k + 1 ≤ r.ents.length := hlt
    clear hx hlt
    by_cases hd : x.dir = id
    · have hd1 : ((x.dir : Int) == (id : Int)) = true := by rw [beq_iff_eq]; omega
      have hd2 : ((x.dir : Int) != (id : Int)) = false := by simp [hd]
      have HDD := Lh hd
      clear hd c02
      go_upto_block 2 with fail
      clear e3 c00 c01 hbl
      go_wp2_with fail
      go_loopw [7] (fun jj wi => ∃ m : Nat, m ≤ L.length ∧ jj = .int .i64 (m : Int) ∧ Hid (wi.ownsRow w.heap.size 9 1 (.slice a L.length cap) L.length (nmC L) ∧ Below w.heap.size w wi ∧ ∀ j < m, ∃ y, L[j]? = some y ∧ bytesBefore y x.name = true)) (fun jj _ => L.length - (intOf jj).toNat)
      case atStart => exact ⟨0, by omega, rfl, Lh ⟨HK.out.2.1, HK.out.2.2, fun j hj => by omega⟩⟩
      case round =>
       obtain ⟨m, hm, rfl, HM⟩ := hrel
       have HLE := Lh HK.out.1
       clear HDW HK
       have HDW := Lh (HD.out.below HM.out.2.1)
       by_cases hmt : m < L.length
       · obtain ⟨y, hy⟩ : ∃ y, L[m]? = some y := ⟨_, List.getElem?_eq_getElem hmt⟩
         rcases HM.out.1.2 with ⟨_, h00⟩ | ⟨g, cap', cur, hv, hg, hbk, hcap, hcm, hcs, htk⟩
         · omega
         injection hv with hv1 _ hv3
         subst hv1 hv3
         have hglt : g < wr.heap.size := (Array.getElem?_eq_some_iff.1 hbk).1
         have hrow := rowAt_own HM.out.1 HM.out.1.1 hglt
         have cy2 : wr.cell? ⟨g, m, none⟩ = some (.string (tx y)) := by rw [hrow.cell m (by rw [nmC_len]; exact hmt)]; exact nmC_at hy
         have m1 : (m : Int) < (L.length : Int) := by omega
         have m0 : (0 : Int) ≤ (m : Int) := by omega
         have HRow := Lh hrow
         have HY := Lh hy
         clear hbk htk hrow hy hcs
         obtain ⟨_, _, _, e3, _⟩ := HDW.out.cells
         rw [HV3.out] at e3
         have hbl := HDW.out.row.lt
         obtain ⟨gy, cy, qy, _, _, c01, _⟩ := HDW.out.ent HX.out
         rw [HV3.out] at qy
         cases qy
         cases hyn : bytesBefore y x.name with
         | true =>
          have hq : Op.bytesLess (tx y).toList (tx x.name).toList = true := by rw [less_tx, hyn]
          have HYN := Lh hyn
          clear hyn
          go_upto_region 7 with fail
          go_quiet (fail)
          go_wp2_with fail
          go_roundw
          case rel => exact ⟨m + 1, by omega, by go_num, Lh ⟨own_same HM.out.1 (fun _ _ => rfl), below_drewN HM.out.2.1 nq, fun j hj => by
           by_cases e : j = m
           · subst e; exact ⟨y, HY.out, HYN.out⟩
           · exact HM.out.2.2 j (by omega)⟩⟩
          case measure => simp [intOf]; omega
         | false =>
          have hq : Op.bytesLess (tx y).toList (tx x.name).toList = false := by rw [less_tx, hyn]
          have HIN := Lh (insR_at hm HM.out.2.2 (fun z hz => by rw [HY.out] at hz; cases hz; exact hyn))
          clear hyn
          go_upto_region 7 with fail
          go_quiet (fail)
          go_upto_region 9 with fail
          have HB := Lh (below_drewN HM.out.2.1 nq)
          have HRow := Lh (show RowAt (wr.drewN nq) g (nmC L) from HRow.out)
          clear HDW HM cy2 e3 hbl c01 hglt
          generalize World.drewN _ nq = W5 at *
          have HN2 := Lh (show L.take m ++ x.name :: L.drop m = namesTo r id (k + 1) from by rw [namesTo_yes HX.out HDD.out, ← HLE.out, HIN.out])
          have m2 : (m : Int) ≤ (cap : Int) := by omega
          have m3 : (m : Int) ≤ (L.length : Int) := by omega
          have m4 : (L.length : Int) ≤ (cap : Int) := by omega
          obtain ⟨T1, hT1⟩ : ∃ T1, T1 = nmC (L.take m) := ⟨_, rfl⟩
          obtain ⟨T3, hT3⟩ : ∃ T3, T3 = nmC (L.drop m) := ⟨_, rfl⟩
          have HT1 : Hid (T1.length = m * 1 ∧ (∀ j u, T1[j]? = some u → W5.cell? ((⟨g, 0, none⟩ : Addr).add j) = some u) ∧ ∀ u ∈ T1, u.oneCell' = true) := by
           refine ⟨by rw [hT1, nmC_len, List.length_take]; omega, fun j u hu => ?_, by rw [hT1]; exact nmC_one⟩
           rw [addr_add]
           rw [hT1, nmC_take] at hu
           exact row_from HRow.out 0 j u (by
            rw [List.drop_zero]
            obtain ⟨q, _⟩ := List.getElem?_eq_some_iff.1 hu
            rw [List.length_take] at q
            rw [List.getElem?_take_of_lt (by omega)] at hu; exact hu)
          have HT3 : Hid (T3.length = (L.length - m) * 1 ∧ (∀ W, RowAt W g (nmC L) → ∀ j u, T3[j]? = some u → W.cell? ((⟨g, m, none⟩ : Addr).add j) = some u) ∧ ∀ u ∈ T3, u.oneCell' = true) := by
           refine ⟨by rw [hT3, nmC_len, List.length_drop]; omega, fun W hW j u hu => ?_, by rw [hT3]; exact nmC_one⟩
           rw [addr_add]
           rw [hT3, nmC_drop] at hu
           exact row_from hW m j u hu
          have HE : Hid (T1 ++ (.string (tx x.name) :: T3) = nmC (L.take m ++ x.name :: L.drop m) ∧ (L.take m ++ x.name :: L.drop m).length = m + 1 + (L.length - m)) := by
           refine ⟨by rw [hT1, hT3, nmC_mid], by simp; omega⟩
          clear hT1 hT3
          generalize L.take m ++ x.name :: L.drop m = L2 at *
          have Hm := Lh (show m + 1 + (L.length - m) = L.length + 1 from by omega)
          go_wp2_with (at_builtin; refine wpList_append_own _ rfl _ _ 28 rfl W5.heap.size 9 i0 (.string ⟨#[]⟩) 1 16 Tryz.underlying28 HI.out.1 HI.out.2.1 HI.out.2.2.1 HI.out.2.2.2 rfl (by decide) (.slice none 0 0) 0 [] rfl (World.ownsRow_nil _ _ _ _) ⟨g, 0, none⟩ m cap T1 rfl HT1.out.1 HT1.out.2.1 HT1.out.2.2 (by unfold maxLen; omega) (by omega) (Nat.le_refl _) ?_)
          intro v1 w1 hown1 hg1 _
          obtain ⟨a1, cap1, rfl⟩ := own_formX hown1
          have HO1 := Lh hown1
          have HR1 := Lh (HRow.out.grown hg1 (by simp [Value.ownBlock]))
          have hw1 := hg1.size
          have HR1n := Lh (row_newsX (rowAt_alloc w1 #[.string (tx x.name)] 9))
          have HB1 := Lh (HB.out.grown hg1 HB.out.size (fun j hj => by simp [Value.ownBlock] at hj))
          clear hown1 hg1
          have HD1 := Lh (HD.out.below HB1.out)
          obtain ⟨_, _, _, e31, _⟩ := HD1.out.cells
          rw [HV3.out] at e31
          have hbl1 := HD1.out.row.lt
          obtain ⟨gy1, cy1, qy1, _, _, d01, _⟩ := HD1.out.ent HX.out
          rw [HV3.out] at qy1
          cases qy1
          go_wp2_with (at_builtin; refine wpList_append_own _ rfl _ _ 28 rfl W5.heap.size 9 i0 (.string ⟨#[]⟩) 1 16 Tryz.underlying28 HI.out.1 HI.out.2.1 HI.out.2.2.1 HI.out.2.2.2 rfl (by decide) _ m T1 (by first | rfl | simp) (HO1.out.alloc _) ⟨w1.heap.size, 0, none⟩ 1 1 [.string (tx x.name)] rfl rfl HR1n.out (by intro u hu; simp at hu; subst hu; rfl) (by unfold maxLen; omega) (by omega) (by simp; omega) ?_)
          intro v2 w2 hown2 hg2 _
          obtain ⟨a2, cap2, rfl⟩ := own_formX hown2
          have HO2 := Lh hown2
          have hg1b : ∀ j, (Value.slice a1 m cap1).ownBlock = some j → W5.heap.size ≤ j := fun j hj => (HO1.out.lt j hj).1
          have hgl := HRow.out.lt
          have HR2 := Lh ((HR1.out.alloc (.cells #[.string (tx x.name)] 9)).grown hg2 (fun e => by have := hg1b g e; omega))
          have hw2 := hg2.size
          rw [World.size_alloc] at hw2
          have HB2 := Lh ((HB1.out.alloc HB1.out.size (.cells #[.string (tx x.name)] 9)).grown hg2 (by have := HB1.out.size; simp; omega) (fun j hj => by have := hg1b j hj; have := HB.out.size; omega))
          clear hown2 hg2 hg1b HR1n HR1 e31 d01 hbl1 HD1 hgl
          go_wp2_with (at_builtin; refine wpList_append_own _ rfl _ _ 28 rfl W5.heap.size 9 i0 (.string ⟨#[]⟩) 1 16 Tryz.underlying28 HI.out.1 HI.out.2.1 HI.out.2.2.1 HI.out.2.2.2 rfl (by decide) _ (m + 1) (T1 ++ [.string (tx x.name)]) (by first | rfl | simp) HO2.out ⟨g, m, none⟩ (L.length - m) (cap - m) T3 (by first | rfl | (simp [Act.eval, Act.put]; done)) HT3.out.1 (HT3.out.2.1 _ HR2.out) HT3.out.2.2 (by unfold maxLen; omega) (by omega) (by omega) ?_)
          intro v3 w3 hown3 hg3 _
          obtain ⟨a3, cap3, rfl⟩ := own_formX hown3
          have HB3 := Lh (HB2.out.grown hg3 (by have := HB.out.size; omega) (fun j hj => by have := (HO2.out.lt j hj).1; have := HB.out.size; omega))
          have HO3 := Lh (show w3.ownsRow w.heap.size 9 1 (.slice a3 L2.length cap3) L2.length (nmC L2) from by
           have := own_base hown3 HB.out.size
           rw [HE.out.2]
           simpa [HE.out.1] using this)
          clear hown3 hg3 HR2 HO2 HO1 HB1 HB2 hw1 hw2
          go_wp2_with fail
          go_roundw
          case rel => exact ⟨k + 1, a3, cap3, L2, hkk, by go_num, by rw [HE.out.2], Lh ⟨HN2.out, HO3.out, HB3.out⟩⟩
          case measure => simp [intOf]; omega
       · have hml : m = L.length := by omega
         have hnm : ¬ ((m : Int) < (L.length : Int)) := by omega
         have HIN := Lh (insR_at hm HM.out.2.2 (fun z hz => by have := (List.getElem?_eq_some_iff.1 hz).1; omega))
         go_upto_region 7 with fail
         go_quiet (fail)
         go_upto_region 9 with fail
         have HB := Lh (below_drewN HM.out.2.1 nq)
         have HOW := Lh (show (wr.drewN nq).ownsRow w.heap.size 9 1 (.slice a L.length cap) L.length (nmC L) from own_same HM.out.1 (fun _ _ => rfl))
         clear HDW HM
         generalize World.drewN _ nq = W5 at *
         clear hml hnm
         rcases HOW.out.2 with ⟨hv, h00⟩ | ⟨g, cap', cur, hv, hg, hbk, hcap, hcm, hcs, htk⟩
         · injection hv with hv1 _ hv3
           subst hv1 hv3
           obtain rfl : L = [] := List.length_eq_zero_iff.1 h00
           obtain rfl : m = 0 := by simp at hm; exact hm
           have HN2 := Lh (show [x.name] = namesTo r id (k + 1) from by rw [namesTo_yes HX.out HDD.out, ← HLE.out]; rfl)
           have HR1n := Lh (row_newsX (rowAt_alloc W5 #[.string (tx x.name)] 9))
           clear hm hLl HIN HOW
           try clear h00
           have HB1 := Lh HB.out
           have HD1 := Lh (HD.out.below HB1.out)
           obtain ⟨_, _, _, e31, _⟩ := HD1.out.cells
           rw [HV3.out] at e31
           have hbl1 := HD1.out.row.lt
           obtain ⟨gy1, cy1, qy1, _, _, d01, _⟩ := HD1.out.ent HX.out
           rw [HV3.out] at qy1
           cases qy1
           go_wp2_with (at_builtin; refine wpList_append_own _ rfl _ _ 28 rfl W5.heap.size 9 i0 (.string ⟨#[]⟩) 1 16 Tryz.underlying28 HI.out.1 HI.out.2.1 HI.out.2.2.1 HI.out.2.2.2 rfl (by decide) (.slice none 0 0) 0 [] (by first | rfl | simp) (World.ownsRow_nil _ _ _ _) ⟨W5.heap.size, 0, none⟩ 1 1 [.string (tx x.name)] rfl rfl HR1n.out (by intro u hu; simp at hu; subst hu; rfl) (by unfold maxLen; omega) (by omega) (by simp) ?_)
           intro v2 w2 hown2 hg2 _
           obtain ⟨a2, cap2, rfl⟩ := own_formX hown2
           have HO2 := Lh hown2
           have HB2 := Lh ((HB.out.alloc HB.out.size (.cells #[.string (tx x.name)] 9)).grown hg2 (by have := HB.out.size; simp; omega) (fun j hj => by simp [Value.ownBlock] at hj))
           clear hown2 hg2 HR1n e31 d01 hbl1
           go_wp2_with (at_builtin; refine wpList_append_own_none rfl _ _ 28 rfl W5.heap.size 9 i0 1 Tryz.underlying28 HI.out.1 (.slice a2 1 cap2) 1 [.string (tx x.name)] (by first | rfl | (simp [Act.eval, Act.put]; done)) HO2.out (by first | rfl | (simp [Act.eval, Act.put]; done)) ?_)
           have HO3 := Lh (show w2.ownsRow w.heap.size 9 1 (.slice a2 [x.name].length cap2) [x.name].length (nmC [x.name]) from own_base HO2.out HB.out.size)
           clear HO2
           go_wp2_with fail
           go_roundw
           case rel => exact ⟨k + 1, a2, cap2, [x.name], hkk, by go_num, rfl, Lh ⟨HN2.out, HO3.out, HB2.out⟩⟩
           case measure => simp [intOf]; omega
         · injection hv with hv1 _ hv3
           subst hv1 hv3
           have hglt : g < W5.heap.size := (Array.getElem?_eq_some_iff.1 hbk).1
           have hrow := rowAt_own HOW.out HOW.out.1 hglt
           have HRow := Lh hrow
           clear hbk htk hrow hcs hglt
           by_cases hcz : cap = m
           · skip
             have HN2 := Lh (show L.take m ++ x.name :: L.drop m = namesTo r id (k + 1) from by rw [namesTo_yes HX.out HDD.out, ← HLE.out, HIN.out])
             have m2 : (m : Int) ≤ (cap : Int) := by omega
             have m3 : (m : Int) ≤ (L.length : Int) := by omega
             have m4 : (L.length : Int) ≤ (cap : Int) := by omega
             obtain ⟨T1, hT1⟩ : ∃ T1, T1 = nmC (L.take m) := ⟨_, rfl⟩
             obtain ⟨T3, hT3⟩ : ∃ T3, T3 = nmC (L.drop m) := ⟨_, rfl⟩
             have HT1 : Hid (T1.length = m * 1 ∧ (∀ j u, T1[j]? = some u → W5.cell? ((⟨g, 0, none⟩ : Addr).add j) = some u) ∧ ∀ u ∈ T1, u.oneCell' = true) := by
              refine ⟨by rw [hT1, nmC_len, List.length_take]; omega, fun j u hu => ?_, by rw [hT1]; exact nmC_one⟩
              rw [addr_add]
              rw [hT1, nmC_take] at hu
              exact row_from HRow.out 0 j u (by
               rw [List.drop_zero]
               obtain ⟨q, _⟩ := List.getElem?_eq_some_iff.1 hu
               rw [List.length_take] at q
               rw [List.getElem?_take_of_lt (by omega)] at hu; exact hu)
             have HT3 : Hid (T3.length = (L.length - m) * 1 ∧ (∀ W, RowAt W g (nmC L) → ∀ j u, T3[j]? = some u → W.cell? ((⟨g, 0, none⟩ : Addr).add j) = some u) ∧ ∀ u ∈ T3, u.oneCell' = true) := by
              refine ⟨by rw [hT3, nmC_len, List.length_drop]; omega, fun W hW j u hu => ?_, by rw [hT3]; exact nmC_one⟩
              rw [hT3, List.drop_of_length_le (by omega)] at hu
              simp [nmC, strs] at hu
             have HE : Hid (T1 ++ (.string (tx x.name) :: T3) = nmC (L.take m ++ x.name :: L.drop m) ∧ (L.take m ++ x.name :: L.drop m).length = m + 1 + (L.length - m)) := by
              refine ⟨by rw [hT1, hT3, nmC_mid], by simp; omega⟩
             clear hT1 hT3
             generalize L.take m ++ x.name :: L.drop m = L2 at *
             have Hm := Lh (show m + 1 + (L.length - m) = L.length + 1 from by omega)
             go_wp2_with (at_builtin; refine wpList_append_own _ rfl _ _ 28 rfl W5.heap.size 9 i0 (.string ⟨#[]⟩) 1 16 Tryz.underlying28 HI.out.1 HI.out.2.1 HI.out.2.2.1 HI.out.2.2.2 rfl (by decide) (.slice none 0 0) 0 [] rfl (World.ownsRow_nil _ _ _ _) ⟨g, 0, none⟩ m _ T1 rfl HT1.out.1 HT1.out.2.1 HT1.out.2.2 (by unfold maxLen; omega) (by omega) (Nat.le_refl _) ?_)
             intro v1 w1 hown1 hg1 _
             obtain ⟨a1, cap1, rfl⟩ := own_formX hown1
             have HO1 := Lh hown1
             have HR1 := Lh (HRow.out.grown hg1 (by simp [Value.ownBlock]))
             have hw1 := hg1.size
             have HR1n := Lh (row_newsX (rowAt_alloc w1 #[.string (tx x.name)] 9))
             have HB1 := Lh (HB.out.grown hg1 HB.out.size (fun j hj => by simp [Value.ownBlock] at hj))
             clear hown1 hg1
             have HD1 := Lh (HD.out.below HB1.out)
             obtain ⟨_, _, _, e31, _⟩ := HD1.out.cells
             rw [HV3.out] at e31
             have hbl1 := HD1.out.row.lt
             obtain ⟨gy1, cy1, qy1, _, _, d01, _⟩ := HD1.out.ent HX.out
             rw [HV3.out] at qy1
             cases qy1
             go_wp2_with (at_builtin; refine wpList_append_own _ rfl _ _ 28 rfl W5.heap.size 9 i0 (.string ⟨#[]⟩) 1 16 Tryz.underlying28 HI.out.1 HI.out.2.1 HI.out.2.2.1 HI.out.2.2.2 rfl (by decide) _ m T1 (by first | rfl | simp) (HO1.out.alloc _) ⟨w1.heap.size, 0, none⟩ 1 1 [.string (tx x.name)] rfl rfl HR1n.out (by intro u hu; simp at hu; subst hu; rfl) (by unfold maxLen; omega) (by omega) (by simp; omega) ?_)
             intro v2 w2 hown2 hg2 _
             obtain ⟨a2, cap2, rfl⟩ := own_formX hown2
             have HO2 := Lh hown2
             have hg1b : ∀ j, (Value.slice a1 m cap1).ownBlock = some j → W5.heap.size ≤ j := fun j hj => (HO1.out.lt j hj).1
             have hgl := HRow.out.lt
             have HR2 := Lh ((HR1.out.alloc (.cells #[.string (tx x.name)] 9)).grown hg2 (fun e => by have := hg1b g e; omega))
             have hw2 := hg2.size
             rw [World.size_alloc] at hw2
             have HB2 := Lh ((HB1.out.alloc HB1.out.size (.cells #[.string (tx x.name)] 9)).grown hg2 (by have := HB1.out.size; simp; omega) (fun j hj => by have := hg1b j hj; have := HB.out.size; omega))
             clear hown2 hg2 hg1b HR1n HR1 e31 d01 hbl1 HD1 hgl
             go_wp2_with (at_builtin; refine wpList_append_own _ rfl _ _ 28 rfl W5.heap.size 9 i0 (.string ⟨#[]⟩) 1 16 Tryz.underlying28 HI.out.1 HI.out.2.1 HI.out.2.2.1 HI.out.2.2.2 rfl (by decide) _ (m + 1) (T1 ++ [.string (tx x.name)]) (by first | rfl | simp) HO2.out ⟨g, 0, none⟩ (L.length - m) _ T3 (by first | rfl | (simp [Act.eval, Act.put]; done)) HT3.out.1 (HT3.out.2.1 _ HR2.out) HT3.out.2.2 (by unfold maxLen; omega) (by omega) (by omega) ?_)
             intro v3 w3 hown3 hg3 _
             obtain ⟨a3, cap3, rfl⟩ := own_formX hown3
             have HB3 := Lh (HB2.out.grown hg3 (by have := HB.out.size; omega) (fun j hj => by have := (HO2.out.lt j hj).1; have := HB.out.size; omega))
             have HO3 := Lh (show w3.ownsRow w.heap.size 9 1 (.slice a3 L2.length cap3) L2.length (nmC L2) from by
              have := own_base hown3 HB.out.size
              rw [HE.out.2]
              simpa [HE.out.1] using this)
             clear hown3 hg3 HR2 HO2 HO1 HB1 HB2 hw1 hw2
             go_wp2_with fail
             go_roundw
             case rel => exact ⟨k + 1, a3, cap3, L2, hkk, by go_num, by rw [HE.out.2], Lh ⟨HN2.out, HO3.out, HB3.out⟩⟩
             case measure => simp [intOf]; omega
           · skip
             have HN2 := Lh (show L.take m ++ x.name :: L.drop m = namesTo r id (k + 1) from by rw [namesTo_yes HX.out HDD.out, ← HLE.out, HIN.out])
             have m2 : (m : Int) ≤ (cap : Int) := by omega
             have m3 : (m : Int) ≤ (L.length : Int) := by omega
             have m4 : (L.length : Int) ≤ (cap : Int) := by omega
             obtain ⟨T1, hT1⟩ : ∃ T1, T1 = nmC (L.take m) := ⟨_, rfl⟩
             obtain ⟨T3, hT3⟩ : ∃ T3, T3 = nmC (L.drop m) := ⟨_, rfl⟩
             have HT1 : Hid (T1.length = m * 1 ∧ (∀ j u, T1[j]? = some u → W5.cell? ((⟨g, 0, none⟩ : Addr).add j) = some u) ∧ ∀ u ∈ T1, u.oneCell' = true) := by
              refine ⟨by rw [hT1, nmC_len, List.length_take]; omega, fun j u hu => ?_, by rw [hT1]; exact nmC_one⟩
              rw [addr_add]
              rw [hT1, nmC_take] at hu
              exact row_from HRow.out 0 j u (by
               rw [List.drop_zero]
               obtain ⟨q, _⟩ := List.getElem?_eq_some_iff.1 hu
               rw [List.length_take] at q
               rw [List.getElem?_take_of_lt (by omega)] at hu; exact hu)
             have HT3 : Hid (T3.length = (L.length - m) * 1 ∧ (∀ W, RowAt W g (nmC L) → ∀ j u, T3[j]? = some u → W.cell? ((⟨g, m, none⟩ : Addr).add j) = some u) ∧ ∀ u ∈ T3, u.oneCell' = true) := by
              refine ⟨by rw [hT3, nmC_len, List.length_drop]; omega, fun W hW j u hu => ?_, by rw [hT3]; exact nmC_one⟩
              rw [addr_add]
              rw [hT3, nmC_drop] at hu
              exact row_from hW m j u hu
             have HE : Hid (T1 ++ (.string (tx x.name) :: T3) = nmC (L.take m ++ x.name :: L.drop m) ∧ (L.take m ++ x.name :: L.drop m).length = m + 1 + (L.length - m)) := by
              refine ⟨by rw [hT1, hT3, nmC_mid], by simp; omega⟩
             clear hT1 hT3
             generalize L.take m ++ x.name :: L.drop m = L2 at *
             have Hm := Lh (show m + 1 + (L.length - m) = L.length + 1 from by omega)
             go_wp2_with (at_builtin; refine wpList_append_own _ rfl _ _ 28 rfl W5.heap.size 9 i0 (.string ⟨#[]⟩) 1 16 Tryz.underlying28 HI.out.1 HI.out.2.1 HI.out.2.2.1 HI.out.2.2.2 rfl (by decide) (.slice none 0 0) 0 [] rfl (World.ownsRow_nil _ _ _ _) ⟨g, 0, none⟩ m cap T1 rfl HT1.out.1 HT1.out.2.1 HT1.out.2.2 (by unfold maxLen; omega) (by omega) (Nat.le_refl _) ?_)
             intro v1 w1 hown1 hg1 _
             obtain ⟨a1, cap1, rfl⟩ := own_formX hown1
             have HO1 := Lh hown1
             have HR1 := Lh (HRow.out.grown hg1 (by simp [Value.ownBlock]))
             have hw1 := hg1.size
             have HR1n := Lh (row_newsX (rowAt_alloc w1 #[.string (tx x.name)] 9))
             have HB1 := Lh (HB.out.grown hg1 HB.out.size (fun j hj => by simp [Value.ownBlock] at hj))
             clear hown1 hg1
             have HD1 := Lh (HD.out.below HB1.out)
             obtain ⟨_, _, _, e31, _⟩ := HD1.out.cells
             rw [HV3.out] at e31
             have hbl1 := HD1.out.row.lt
             obtain ⟨gy1, cy1, qy1, _, _, d01, _⟩ := HD1.out.ent HX.out
             rw [HV3.out] at qy1
             cases qy1
             go_wp2_with (at_builtin; refine wpList_append_own _ rfl _ _ 28 rfl W5.heap.size 9 i0 (.string ⟨#[]⟩) 1 16 Tryz.underlying28 HI.out.1 HI.out.2.1 HI.out.2.2.1 HI.out.2.2.2 rfl (by decide) _ m T1 (by first | rfl | simp) (HO1.out.alloc _) ⟨w1.heap.size, 0, none⟩ 1 1 [.string (tx x.name)] rfl rfl HR1n.out (by intro u hu; simp at hu; subst hu; rfl) (by unfold maxLen; omega) (by omega) (by simp; omega) ?_)
             intro v2 w2 hown2 hg2 _
             obtain ⟨a2, cap2, rfl⟩ := own_formX hown2
             have HO2 := Lh hown2
             have hg1b : ∀ j, (Value.slice a1 m cap1).ownBlock = some j → W5.heap.size ≤ j := fun j hj => (HO1.out.lt j hj).1
             have hgl := HRow.out.lt
             have HR2 := Lh ((HR1.out.alloc (.cells #[.string (tx x.name)] 9)).grown hg2 (fun e => by have := hg1b g e; omega))
             have hw2 := hg2.size
             rw [World.size_alloc] at hw2
             have HB2 := Lh ((HB1.out.alloc HB1.out.size (.cells #[.string (tx x.name)] 9)).grown hg2 (by have := HB1.out.size; simp; omega) (fun j hj => by have := hg1b j hj; have := HB.out.size; omega))
             clear hown2 hg2 hg1b HR1n HR1 e31 d01 hbl1 HD1 hgl
             go_wp2_with (at_builtin; refine wpList_append_own _ rfl _ _ 28 rfl W5.heap.size 9 i0 (.string ⟨#[]⟩) 1 16 Tryz.underlying28 HI.out.1 HI.out.2.1 HI.out.2.2.1 HI.out.2.2.2 rfl (by decide) _ (m + 1) (T1 ++ [.string (tx x.name)]) (by first | rfl | simp) HO2.out ⟨g, m, none⟩ (L.length - m) (cap - m) T3 (by first | rfl | (simp [Act.eval, Act.put]; done)) HT3.out.1 (HT3.out.2.1 _ HR2.out) HT3.out.2.2 (by unfold maxLen; omega) (by omega) (by omega) ?_)
             intro v3 w3 hown3 hg3 _
             obtain ⟨a3, cap3, rfl⟩ := own_formX hown3
             have HB3 := Lh (HB2.out.grown hg3 (by have := HB.out.size; omega) (fun j hj => by have := (HO2.out.lt j hj).1; have := HB.out.size; omega))
             have HO3 := Lh (show w3.ownsRow w.heap.size 9 1 (.slice a3 L2.length cap3) L2.length (nmC L2) from by
              have := own_base hown3 HB.out.size
              rw [HE.out.2]
              simpa [HE.out.1] using this)
             clear hown3 hg3 HR2 HO2 HO1 HB1 HB2 hw1 hw2
             go_wp2_with fail
             go_roundw
             case rel => exact ⟨k + 1, a3, cap3, L2, hkk, by go_num, by rw [HE.out.2], Lh ⟨HN2.out, HO3.out, HB3.out⟩⟩
             case measure => simp [intOf]; omega
    · have hd1 : ((x.dir : Int) == (id : Int)) = false := by rw [beq_eq_false_iff_ne]; omega
      have hd2 : ((x.dir : Int) != (id : Int)) = true := by rw [bne_iff_ne]; omega
      have HN2 := Lh (namesTo_no HX.out hd)
      clear hd c01 c02
      go_wp2_with fail
      go_roundw
      case rel => exact ⟨k + 1, a, cap, L, hkk, by go_num, rfl, Lh ⟨by rw [HN2.out]; exact HK.out.1, HK.out.2⟩⟩
      case measure => simp [intOf]; omega
  · obtain rfl : k = r.ents.length := by omega
    have hnl : ¬ ((r.ents.length : Int) < (r.ents.length : Int)) := by omega
    have hL : L = namesR r id := by rw [HK.out.1, HAL.out]
    go_wp2_with fail
    go_ret
    exact ⟨a, cap, by rw [← hL]; rfl, by rw [← hL]; exact HK.out.2⟩
end Go.Proofs.YtppdihpobokfnaaGreatDoor
set_option linter.unusedVariables false
set_option linter.unusedSimpArgs false
set_option maxRecDepth 100000
namespace Go.Proofs.YtppdihpobokfnaaGreatDoor
open Go.RowKit Go.Joins
theorem ListD.far {W0 W : World} {Q : Rr} {v u : Value} {xs : List Value} {b i : Nat} (h : ListD W0 Q W v xs) (hb : b < W0.heap.size) : ListD W0 Q (W.setCell ⟨b, i, none⟩ u) v xs := by
 rcases h with h | ⟨g, cap, e, h1, h2, h3⟩
 · exact .inl h
 · exact .inr ⟨g, cap, e, h1.same (Below.heap_setCell _ _ _ _ (show g ≠ b from by omega)), h2, h3⟩
theorem ListD.less {W0 w W : World} {Q : Rr} {v : Value} {xs : List Value} (h : ListD W0 Q W v xs) (hb : w.heap.size ≤ W0.heap.size) : ListD w Q W v xs := by
 rcases h with h | ⟨g, cap, e, h1, h2, h3⟩
 · exact .inl h
 · exact .inr ⟨g, cap, e, h1, h2, by omega⟩
theorem ListD.own {W0 W : World} {Q : Rr} {r : RM} {v : Value} {xs : List Value} {n : Nat} {t : TypeId} (hd : DocAt W0 Q r) (h : W.ownsRow W0.heap.size t 1 v n xs) (hn : xs.length = n) : ListD W0 Q W v xs := by
 obtain ⟨h1, h2⟩ := h
 rcases h2 with ⟨rfl, h2⟩ | ⟨g, cap, cur, rfl, hg, hc, hn', hm, hs, ht⟩
 · exact .inl ⟨List.length_eq_zero_iff.1 (by omega), rfl⟩
 · refine .inr ⟨g, cap, by rw [hn], ⟨cur, _, 0, 0, hc, fun i hi => ?_, fun i hi => by omega⟩, fun q => by have := hd.old q; omega, hg⟩
   rw [← Array.getElem?_toList]
   have h9 : (cur.toList.take (n * 1))[i]? = xs[i]? := by rw [ht]
   rw [List.getElem?_take_of_lt (by omega)] at h9
   exact h9
set_option maxHeartbeats 8000000 in
theorem r22by (Q : Rr) (r : RM) (c : Cl) (w : World) (h : DocAt w Q r) (hF : RFull r) (hp : c.p.size ≤ 100000) :
  Calls Tryz.prog 73 #[.pointer (some ⟨Q.b, 0, none⟩), .agg #[.int .i64 c.k, .string c.p, .string c.o, .int .i64 c.fd, .int .i64 c.n, .string c.d, .bool c.on]] w (OpDG w Q (byR r c)) := by
 obtain ⟨k, y, hq1⟩ : ∃ k y, pathR r (bts c.p) = (k, y) := ⟨_, _, rfl⟩
 have HPA := Lh (fun W (hW : DocAt W Q r) => hq1 ▸ r22path Q r c.p hp W hW hF)
 have HQ1 := Lh hq1
 have HF := Lh hF
 obtain ⟨xk, hxk⟩ : ∃ x, r.nd k = some x := by have := path_there hF (bts c.p); rw [hq1] at this; exact this
 have HXK := Lh hxk
 simp only at HPA
 clear hq1 hF hxk
 have F0 := DFr.start h c 36 33
 clear h
 go_enter Tryz.func73, Tryz.ntmps73
 go_upto_region 1 with fail
 generalize (w.alloc (.cells #[.int .i64 c.k, .string c.p, .string c.o, .int .i64 c.fd, .int .i64 c.n, .string c.d, .bool c.on] 36)).alloc (.cells #[.int .i64 0, .int .i64 0, .string ⟨#[]⟩, .slice none 0 0, .int .i64 0, .int .i64 0, .int .i64 0, .bool false, .slice none 0 0, .bool false] 33) = W1 at *
 have F1 := Lh F0
 clear F0
 obtain ⟨a0, a1, a2, a3, a4, a5, a6⟩ := row7_cells F1.out.call
 clear a0 a2 a3 a4 a5 a6
 go_wp2_with fail
 refine (HPA.out _ F1.out.doc).mono ?_
 rintro e W2 ⟨rfl, hb⟩
 have F2 := Lh (F1.out.below hb)
 clear hb F1 a1 HPA
 have hsz := F2.out.size
 by_cases hy : y = 0
 · subst hy
   obtain ⟨a0, a1, a2, a3, a4, a5, a6⟩ := row7_cells F2.out.call
   clear a1 a2 a3 a4 a5
   by_cases k13 : c.k = 13
   · have HR := Lh (show byR r c = ({ An.zero with st := r.stat k }, r) from by unfold byR; rw [HQ1.out]; simp [k13])
     have HST := Lh (fun W (hW : DocAt W Q r) => r22stat Q r k xk W hW HF.out.nodes HF.out.ents HXK.out HF.out.enode)
     clear a6
     go_wp2_with fail
     refine (HST.out _ F2.out.doc).mono ?_
     rintro e W4 ⟨rfl, hb⟩
     have F3 := Lh (F2.out.below hb)
     clear hb F2 HST a0
     have hsz := F3.out.size
     generalize r.stat k = st at *
     obtain ⟨_, _, _, _, _, _, _, _, _, _, _, _, _, _, _, _, _, _, _, _⟩ := row10_all F3.out.ans
     go_wp2_with fail
     refine fin10 Tryz.results73 rfl rfl F3.out.ans ?_
     · rw [HR.out]
       refine OpD.all ?_ rfl rfl
       refine ⟨rfl, Q, ?_, rfl⟩
       repeat (refine DMid.other ?_ F3.out.nz (by omega) _ _)
       exact F3.out.mid
   · have b13 : (c.k == 13) = false := by rw [beq_eq_false_iff_ne]; exact k13
     by_cases k15 : c.k = 15
     · obtain ⟨i, hi, hf, hid⟩ := nd_at HXK.out
       have HI := Lh (And.intro hi (And.intro hf hid))
       have HS := Lh (setR_at HF.out.ids hi hid (fun n => { n with pin := c.on }))
       have HR := Lh (show byR r c = (An.zero, setR r k fun n => { n with pin := c.on }) from by unfold byR; rw [HQ1.out]; simp [k15])
       have HNO := Lh (fun W (hW : DocAt W Q r) => HI.out.2.1 ▸ r22node Q r (k : Int) W hW HF.out.nodes)
       obtain ⟨g, cap', u1, u2, ⟨v, u3⟩, u4, u5, u6⟩ := DocAt.setN kinds3 F2.out.doc hi (j := 2) (x' := { xk with pin := c.on }) (u := .bool c.on) (by omega) rfl
       rw [← HS.out] at u5
       have HU5 := Lh u5
       have HU6 := Lh u6
       obtain ⟨_, _, e2, _, _⟩ := F2.out.doc.cells
       rw [u1] at e2
       have hbl := F2.out.doc.row.lt
       have hi9 : (i : Int) < (r.nodes.length : Int) := by have := (List.getElem?_eq_some_iff.1 hi).1; omega
       have hi8 : (0 : Int) ≤ (i : Int) := by omega
       have k13' : ¬ c.k = 13 := k13
       clear u5 u6 hi hf hid u1
       go_upto_region 8 with fail
       go_still_tail 9, (by kernel_rfl)
       still_call ((HNO.out _ F2.out.drew.doc).mono (fun e w2 hh => ⟨hh.1, hh.2.symm⟩))
       repeat still_step
       refine wpStill_nil ?_
       change wpList _ _ _ _ _ (World.drew _)
       go_upto_region 9 with fail
       have F3 := Lh (F2.out.then ⟨HU5.out, HU6.out⟩).drew
       clear HU5 HU6 u2 u3 u4 e2 hbl hsz HNO F2 hi9 hi8 a0 a6
       generalize World.drew _ = W8 at *
       have hsz := F3.out.size
       obtain ⟨_, _, _, _, _, _, _, _, _, _, _, _, _, _, _, _, _, _, _, _⟩ := row10_all F3.out.ans
       go_wp2_with fail
       refine fin10 Tryz.results73 rfl rfl F3.out.ans ?_
       · rw [HR.out]
         refine OpD.all ?_ rfl rfl
         refine ⟨rfl, Q, ?_, rfl⟩
         repeat (refine DMid.other ?_ F3.out.nz (by omega) _ _)
         exact F3.out.mid
     · have b15 : (c.k == 15) = false := by rw [beq_eq_false_iff_ne]; exact k15
       have HK := Lh (fun W (hW : DocAt W Q r) => r22kind Q r k xk W hW HF.out.nodes HXK.out)
       have HNK := Lh (And.intro k13 k15)
       clear k13 k15 a6
       by_cases hd : r.kind k = 2
       · have q2 : (r.kind k == 2) = true := by simpa using hd
         have q3 : (r.kind k != 2) = false := by simp [hd]
         have HR := Lh (show byR r c = ({ An.zero with names := namesR r k }, r) from by unfold byR; rw [HQ1.out]; simp [HNK.out.1, HNK.out.2, hd])
         have HNM := Lh (fun W (hW : DocAt W Q r) => r22names Q r k W hW HF.out.ents)
         clear hd
         go_wp2_with fail
         refine (HK.out _ F2.out.doc).mono ?_
         rintro e W3 ⟨rfl, m3, rfl⟩
         have F3 := Lh (F2.out.drewN m3)
         clear F2
         generalize World.drewN _ m3 = W3g at *
         clear a0
         go_wp2_with fail
         refine (HNM.out _ F3.out.doc).mono ?_
         rintro e W4 ⟨a, cap, rfl, hown, hb⟩
         have hL := ListD.own F3.out.doc hown (nmC_len _)
         have HL := Lh (And.intro hL F3.out.size)
         have F4 := Lh (F3.out.below hb)
         clear hown hb hL F3 HK HNM hsz q2 q3 b13 b15
         have hsz := F4.out.size
         generalize (namesR r k).length = nl at *
         obtain ⟨_, _, _, _, _, _, _, _, _, _, _, _, _, _, _, _, _, _, _, _⟩ := row10_all F4.out.ans
         go_wp2_with fail
         refine fin10 Tryz.results73 rfl rfl F4.out.ans ?_
         · rw [HR.out]
           refine ⟨.slice a nl cap, nilS, rfl, Q, ?_, rfl, ?_, .inl ⟨rfl, rfl⟩⟩
           rotate_left
           · refine ListD.less (W0 := W3g) ?_ (by have := HL.out.2; omega)
             repeat (refine ListD.far (W0 := W3g) ?_ HL.out.2)
             exact HL.out.1
           repeat (refine DMid.other ?_ F4.out.nz (by omega) _ _)
           exact F4.out.mid
       · have q2 : (r.kind k == 2) = false := by simpa using hd
         have q3 : (r.kind k != 2) = true := by simp [hd]
         have HR := Lh (show byR r c = (failA 212, r) from by unfold byR; rw [HQ1.out]; simp [HNK.out.1, HNK.out.2, hd])
         clear hd
         go_wp2_with fail
         refine (HK.out _ F2.out.doc).mono ?_
         rintro e W3 ⟨rfl, m3, rfl⟩
         have F3 := Lh (F2.out.drewN m3)
         clear F2
         generalize World.drewN _ m3 = W3g at *
         clear a0
         have hsz := F3.out.size
         go_wp2_with fail
         refine (r22fail _ _).mono ?_
         rintro e WF ⟨rfl, hb⟩
         have F4 := Lh (F3.out.below hb)
         clear hb F3
         obtain ⟨_, _, _, _, _, _, _, _, _, _, _, _, _, _, _, _, _, _, _, _⟩ := row10_all F4.out.ans
         unfold failV anV Stt.zero
         go_wp2_with fail
         refine fin10 Tryz.results73 rfl rfl F4.out.ans ?_
         · rw [HR.out]
           refine OpD.all ?_ rfl rfl
           refine ⟨rfl, Q, ?_, rfl⟩
           repeat (refine DMid.other ?_ F4.out.nz (by omega) _ _)
           exact F4.out.mid
 · have q1 : (y != 0) = true := by rw [bne_iff_ne]; exact hy
   have HR := Lh (show byR r c = (failA y, r) from by unfold byR; rw [HQ1.out]; simp [hy])
   clear hy
   go_wp2_with fail
   refine (r22fail _ _).mono ?_
   rintro e WF ⟨rfl, hb⟩
   have F3 := Lh (F2.out.below hb)
   clear hb F2
   obtain ⟨_, _, _, _, _, _, _, _, _, _, _, _, _, _, _, _, _, _, _, _⟩ := row10_all F3.out.ans
   unfold failV anV Stt.zero
   go_wp2_with fail
   refine fin10 Tryz.results73 rfl rfl F3.out.ans ?_
   · rw [HR.out]
     refine OpD.all ?_ rfl rfl
     refine ⟨rfl, Q, ?_, rfl⟩
     repeat (refine DMid.other ?_ F3.out.nz (by omega) _ _)
     exact F3.out.mid
end Go.Proofs.YtppdihpobokfnaaGreatDoor
set_option linter.unusedVariables false
set_option linter.unusedSimpArgs false
set_option maxRecDepth 100000
namespace Go.Proofs.YtppdihpobokfnaaGreatDoor
open Go.RowKit Go.Joins
def idC (l : List Nat) : List Value := l.map fun (n : Nat) => .int .i64 (n : Int)
theorem idC_len (l : List Nat) : (idC l).length = l.length := by simp [idC]
theorem idC_at {l : List Nat} {j y : Nat} (h : l[j]? = some y) : (idC l)[j]? = some (.int .i64 (y : Int)) := by simp [idC, List.getElem?_map, h]
theorem idC_one {l : List Nat} : ∀ u ∈ idC l, u.oneCell' = true := by
 intro u hu
 simp [idC] at hu
 obtain ⟨a, _, rfl⟩ := hu
 rfl
theorem info_int17 : (Tryz.prog.info? 3).map (fun i => (i.zero, i.size, i.bytes)) = some (some (.int .i64 0), 1, 8) := by kernel_rfl
theorem numOf_first (l : List Nat) (k : Nat) : numOf l k = firstAt (fun y => y == k) l := rfl
theorem numOf_neg {l : List Nat} {k : Nat} : numOf l k < 0 ↔ l.contains k = false := by
 cases h : l.contains k with
 | false => rw [numOf_none h]; simp
 | true =>
  rcases first_find (fun y => y == k) l with ⟨_, h2⟩ | ⟨i, x, h1, _⟩
  · rw [List.find?_eq_none] at h2
    rw [List.contains_iff_mem] at h
    exact absurd (beq_self_eq_true k) (h2 k h)
  · rw [numOf_first, h1]; simp
theorem nums_take {l : List Nat} {j y : Nat} (h : l[j]? = some y) : numsOf (l.take (j + 1)) = if (numsOf (l.take j)).contains y then numsOf (l.take j) else numsOf (l.take j) ++ [y] := by
 rw [List.take_add_one, h]
 exact numsOf_snoc _ _
set_option maxHeartbeats 4000000 in
theorem r22placeN (a : Option Addr) (cap : Nat) (l : List Nat) (k : Nat) (w : World) (hl : l.length ≤ 1000000) (hV : ValS w a (idC l)) :
  Calls Tryz.prog 77 #[.slice a l.length cap, .int .i64 (k : Int)] w fun e w' => e = .returned (.int .i64 (numOf l k)) ∧ w = w' := by
 have HV := Lh hV
 have hl' : (l.length : Int) ≤ 1000000 := by omega
 rw [numOf_first]
 clear hl hV
 go_enter Tryz.func77, Tryz.ntmps77
 go_wp2_with fail
 go_loopw [5] (fun jj wr => ∃ j : Nat, j ≤ l.length ∧ jj = .int .i64 (j : Int) ∧ wr = w ∧ Hid (∀ i < j, ∃ y, l[i]? = some y ∧ (y == k) = false)) (fun jj _ => l.length - (intOf jj).toNat)
 case atStart => exact ⟨0, by omega, rfl, rfl, Lh fun i hi => by omega⟩
 case round =>
  obtain ⟨j, hj, rfl, rfl, HN⟩ := hrel
  by_cases hlt : j < l.length
  · obtain ⟨y, hy⟩ : ∃ y, l[j]? = some y := ⟨_, List.getElem?_eq_getElem hlt⟩
    obtain ⟨P, o, rfl, hP, hc⟩ : ∃ P o, a = some ⟨P, o, none⟩ ∧ P < wr.heap.size ∧ wr.cell? ⟨P, o + j, none⟩ = some (.int .i64 (y : Int)) := by
     rcases HV.out with h | ⟨B, o, rfl, h1, h2⟩
     · have := idC_len l; rw [h] at this; simp at this; omega
     · exact ⟨B, o, rfl, h1, h2 j _ (idC_at hy)⟩
    have h1 : (j : Int) < (l.length : Int) := by omega
    have h0 : (0 : Int) ≤ (j : Int) := by omega
    have HY := Lh hy
    clear hy hlt
    cases hp : (y == k) with
    | true =>
     have hq : ((y : Int) == (k : Int)) = true := by rw [beq_iff_eq] at hp ⊢; omega
     have hE := Lh (firstAt_some (p := fun y => y == k) HY.out hp HN.out)
     clear hp
     go_wp2_with fail
     go_ret
     exact ⟨by rw [hE.out]; rfl, rfl⟩
    | false =>
     have hq : ((y : Int) == (k : Int)) = false := by rw [beq_eq_false_iff_ne] at hp ⊢; omega
     have HQ := Lh hp
     clear hp
     go_wp2_with fail
     go_roundw
     case rel => exact ⟨j + 1, by omega, by go_num, trivial, Lh fun i hi => by
      by_cases e : i = j
      · subst e; exact ⟨y, HY.out, HQ.out⟩
      · exact HN.out i (by omega)⟩
     case measure => simp [intOf]; omega
  · obtain rfl : j = l.length := by omega
    have hE := Lh (firstAt_none (p := fun y => y == k) HN.out)
    go_wp2_with fail
    go_ret
    exact ⟨by rw [hE.out]; rfl, rfl⟩
def NumsRP (l : List Nat) (w : World) (e : Ending) (w' : World) : Prop := ∃ a cap, e = .returned (.slice a l.length cap) ∧ ValS w' a (idC l) ∧ Below w.heap.size w w'
set_option maxHeartbeats 8000000 in
theorem r22numbers (a : Option Addr) (cap : Nat) (l : List Nat) (w : World) (hl : l.length ≤ 1000000) (hV : ValS w a (idC l)) :
  Calls Tryz.prog 76 #[.slice a l.length cap] w (NumsRP (numsOf l) w) := by
 have HV := Lh hV
 have hl' : (l.length : Int) ≤ 1000000 := by omega
 have HLL := Lh hl
 obtain ⟨i0, hi, hz0, hz1, hz2⟩ := info_parts info_int17
 have HI := Lh (And.intro hi (And.intro hz0 (And.intro hz1 hz2)))
 clear hl hV hi hz0 hz1 hz2
 go_enter Tryz.func76, Tryz.ntmps76
 go_wp2_with fail
 go_loopw [3, 4] (fun oo jj wr => ∃ (j : Nat) (a9 : Option Addr) (cap9 : Nat) (L : List Nat), j ≤ l.length ∧ jj = .int .i64 (j : Int) ∧ oo = .slice a9 L.length cap9 ∧ Hid (L = numsOf (l.take j) ∧ wr.ownsRow w.heap.size 3 1 (.slice a9 L.length cap9) L.length (idC L) ∧ Below w.heap.size w wr)) (fun _ jj _ => l.length - (intOf jj).toNat)
 case atStart => exact ⟨0, none, 0, [], by omega, rfl, rfl, Lh ⟨rfl, World.ownsRow_nil _ _ _ _, Below.refl _ _⟩⟩
 case round =>
  obtain ⟨j, a9, cap9, L, hj, rfl, rfl, HK⟩ := hrel
  by_cases hlt : j < l.length
  · obtain ⟨y, hy⟩ : ∃ y, l[j]? = some y := ⟨_, List.getElem?_eq_getElem hlt⟩
    obtain ⟨P, o, rfl, hP, hc⟩ : ∃ P o, a = some ⟨P, o, none⟩ ∧ P < wr.heap.size ∧ wr.cell? ⟨P, o + j, none⟩ = some (.int .i64 (y : Int)) := by
     rcases HV.out with h | ⟨B, o, rfl, h1, h2⟩
     · have := idC_len l; rw [h] at this; simp at this; omega
     · exact ⟨B, o, rfl, Nat.lt_of_lt_of_le h1 HK.out.2.2.size, by rw [HK.out.2.2.cell (p := ⟨B, o + j, none⟩) h1]; exact h2 j _ (idC_at hy)⟩
    have h1 : (j : Int) < (l.length : Int) := by omega
    have h0 : (0 : Int) ≤ (j : Int) := by omega
    have HST := Lh (nums_take hy)
    have hkk : j + 1 ≤ l.length := hlt
    have HLn : Hid (L.length ≤ 1000000) := by
     show _ ≤ _
     rw [HK.out.1]
     have h1 := len_numsOf (l.take j)
     have h2 := List.length_take_le j l
     have := HLL.out; omega
    have HPL := Lh (r22placeN a9 cap9 L y wr HLn.out (by
     obtain ⟨a', c', e, h5, _⟩ := own_news HK.out.2.1
     injection e with e _ _
     rw [e]; exact h5.vals))
    clear hy hlt
    go_wp2_with fail
    refine HPL.out.mono ?_
    rintro e w7 ⟨rfl, rfl⟩
    cases hcn : L.contains y with
    | true =>
     have hq : ¬ numOf L y < 0 := fun q => by rw [numOf_neg.1 q] at hcn; cases hcn
     have HN := Lh (show numsOf (l.take (j + 1)) = L from by rw [HST.out, ← HK.out.1, hcn]; rfl)
     clear hcn
     go_wp2_with fail
     go_roundw
     case rel => exact ⟨j + 1, a9, cap9, L, hkk, by go_num, rfl, Lh ⟨HN.out.symm, HK.out.2⟩⟩
     case measure => simp [intOf]; omega
    | false =>
     have hq : numOf L y < 0 := numOf_neg.2 hcn
     have HN := Lh (show numsOf (l.take (j + 1)) = L ++ [y] from by rw [HST.out, ← HK.out.1, hcn]; rfl)
     have HR := Lh (row_newsX (rowAt_alloc wr #[.int .i64 (y : Int)] 3))
     clear hcn
     go_wp2_with (at_builtin; refine wpList_append_own _ rfl _ _ 31 rfl w.heap.size 3 i0 (.int .i64 0) 1 8 Tryz.underlying31 HI.out.1 HI.out.2.1 HI.out.2.2.1 HI.out.2.2.2 rfl (by decide) _ L.length _ rfl (HK.out.2.1.alloc _) ⟨wr.heap.size, 0, none⟩ 1 1 [.int .i64 (y : Int)] rfl rfl HR.out (by intro u hu; simp at hu; subst hu; rfl) (by have := HLn.out; unfold maxLen; omega) (by have := HLn.out; omega) (by have := HK.out.2.2.size; simp; omega) ?_)
     intro vX wX ownX gX _
     obtain ⟨aY, cY, rfl⟩ := own_formX ownX
     have HOY := Lh (And.intro ownX ((HK.out.2.2.alloc HK.out.2.2.size (.cells #[.int .i64 (y : Int)] 3)).grown gX (by have := HK.out.2.2.size; simp; omega) (fun j hj => (HK.out.2.1.lt j hj).1)))
     clear ownX gX HR
     go_wp2_with fail
     go_roundw
     case rel => exact ⟨j + 1, aY, cY, L ++ [y], hkk, by go_num, by rw [List.length_append]; rfl, Lh ⟨HN.out.symm, by rw [List.length_append]; simpa [idC] using HOY.out.1, HOY.out.2⟩⟩
     case measure => simp [intOf]; omega
  · obtain rfl : j = l.length := by omega
    have hnl : ¬ ((l.length : Int) < (l.length : Int)) := by omega
    have hL : L = numsOf l := by rw [HK.out.1, List.take_length]
    go_wp2_with fail
    go_ret
    refine ⟨a9, cap9, by rw [← hL]; rfl, ?_, HK.out.2.2⟩
    rw [← hL]
    obtain ⟨a', c', e, h5, _⟩ := own_news HK.out.2.1
    injection e with e _ _
    rw [e]; exact h5.vals
end Go.Proofs.YtppdihpobokfnaaGreatDoor
