/- For every input the law glissadelaw22.ModelPlays returns true; within the numbers of calls that the law itself asks; else it returns true at once; a tied card: two package variables of unicode/utf8 are laid as the text lays them; the card speaks of a pruned copy of the project. -/
import Derived.SevenTiedAt
import Derived.Test.YtppdihpobokfnaaGreatDoorGDu
import Derived.Test.YtppdihpobokfnaaGreatDoorTie
import Derived.Test.YtppdihpobokfnaaGreatDoorCards
set_option linter.unusedVariables false
set_option linter.unusedSimpArgs false
set_option maxRecDepth 100000
namespace Go.Proofs.YtppdihpobokfnaaGreatDoor
open Go.RowKit Go.Joins
def usC : Cl := ⟨18, ⟨#[]⟩, ⟨#[]⟩, 0, 0, ⟨#[]⟩, false⟩
theorem opened_again (m : Md) : openedP (againP m) = [] := by
 have ht : (againP m).tab = zeroT := by
  have h := (same_again ((nodesOf m.tab).map (·.toNat)) { m with tab := zeroT }).1
  rw [List.foldl_map] at h
  exact h
 unfold openedP
 rw [ht]
 refine List.filterMap_eq_nil_iff.2 fun i hi => ?_
 cases h : zeroT[i]? with
 | none => rfl
 | some s =>
  have : s.o = false := by
   have h2 := List.mem_of_getElem? h
   have h3 : ∀ x ∈ zeroT, x.o = false := by decide
   exact h3 s h2
  simp [this]
set_option maxHeartbeats 16000000 in
theorem walk_modelPlays (w : World) (z : Int) (hz1 : -9223372036854775808 ≤ z) (hz2 : z ≤ 9223372036854775807) (a : Option Addr) (cap : Nat) (l : List Cl) (hle : l.length ≤ cap) (hcm : cap ≤ maxLen) (hV : ValG w a 7 (l.map callC)) (hQ : ∀ c ∈ l, ClIn c) :
  Calls Tryz.prog 10 #[.int .i64 z, .slice a l.length cap] w fun e w' => e = .returned (.bool true) ∧ Below w.heap.size w w' := by
 have HBY := Lh (beyond22W a cap l 60 5000 w (by omega) (by omega) (by omega) hV hQ)
 have HV0 := Lh hV
 have HQL := Lh hQ
 clear hle hcm hV hQ hz1 hz2
 go_enter Tryz.func10, Tryz.ntmps10
 go_wp2_with fail
 refine HBY.out.mono ?_
 rintro e W2 ⟨⟨b, rfl, hlen⟩, hb⟩
 have HLEN := Lh hlen
 have B2 := Lh hb
 clear hlen hb HBY
 cases b with
 | true =>
  go_wp2_with fail
  refine (lives22 _).mono ?_
  rintro e W9 ⟨rfl, hb⟩
  have B9 := Lh (B2.out.trans (hb.mono B2.out.size))
  clear hb
  go_wp2_with fail
  go_ret
  exact ⟨rfl, B9.out⟩
 | false =>
  have HL := Lh (HLEN.out rfl)
  clear HLEN
  by_cases hz : z < 8 ∨ 512 < z
  · have HN := Lh (mnew_bad z W2 hz)
    have HR := Lh (fun W => r22new_no z W hz)
    clear hz
    go_wp2_with fail
    refine HN.out.mono ?_
    rintro e W3 ⟨rfl, rfl⟩
    go_wp2_with fail
    refine (HR.out _).mono ?_
    rintro e W3 ⟨rfl, rfl⟩
    go_wp2_with fail
    refine (lives22 _).mono ?_
    rintro e W9 ⟨rfl, hb⟩
    have B9 := Lh (B2.out.trans (hb.mono B2.out.size))
    clear hb
    go_wp2_with fail
    go_ret
    exact ⟨rfl, B9.out⟩
  · obtain ⟨N0, hN0⟩ : ∃ N0 : Nat, z = (N0 : Int) := ⟨z.toNat, by omega⟩
    subst hN0
    have hnn : 8 ≤ N0 ∧ N0 ≤ 512 := by omega
    have HN := Lh (mnew N0 W2 hnn)
    have HQ := Lh (fun W => r22new N0 W hnn)
    have HNN := Lh hnn
    clear hz hnn
    go_wp2_with fail
    refine HN.out.mono ?_
    rintro e W4 ⟨R, rfl, hM, hb4, hL4⟩
    have HM := Lh (And.intro hM (And.intro hb4 hL4))
    clear hM hb4 hL4 HN
    go_wp2_with fail
    refine (HQ.out _).mono ?_
    rintro e W5 ⟨Q, rfl, hD, hb5, hq5⟩
    have D0 := Lh (duo_start B2.out HNN.out HM.out.1 HM.out.2.1 HM.out.2.2 hD hb5 hq5 (rows := []) (fun p hp => by cases hp))
    have hll : (l.length : Int) ≤ 60 := by have := HL.out.1; omega
    clear hD hb5 hq5 HM HQ B2
    generalize R.mb = MB at *
    generalize Q.b = QB at *
    go_wp2_with fail
    go_loopw [9] (fun jj wr => ∃ (k : Nat) (m : Md) (r : RM) (rs : List (Nat × List Value)), k ≤ l.length ∧ jj = .int .i64 (k : Int) ∧ Hid (Duo w MB k QB wr m r rs ∧ Sim m r)) (fun jj _ => l.length - (intOf jj).toNat)
    case atStart => exact ⟨0, newP N0, newRM N0, _, by omega, rfl, Lh ⟨D0.out, Sim.new N0⟩⟩
    case round =>
     obtain ⟨k, m, r, rs, hk, rfl, HS⟩ := hrel
     by_cases hlt : k < l.length
     · obtain ⟨x, hx⟩ : ∃ x, l[k]? = some x := ⟨_, List.getElem?_eq_getElem hlt⟩
       obtain ⟨P, o, rfl, hP, _⟩ := (HV0.out.below HS.out.1.below).at (i := k) (xs := callC x) (by rw [List.getElem?_map, hx]; rfl)
       have HCL := Lh (fun W (hb : Below w.heap.size w W) => cl_cellsD (HV0.out.below hb) hx)
       obtain ⟨c0, c1, c2, c3, c4, c5, c6⟩ := HCL.out _ HS.out.1.below
       have i1 : (k : Int) < (l.length : Int) := by omega
       have i2 : (0 : Int) ≤ (k : Int) := by omega
       have hxm := List.mem_of_getElem? hx
       have HXS := Lh (HL.out.2 x hxm)
       obtain ⟨A, m2, hA⟩ : ∃ A m2, doP m x = (A, m2) := ⟨_, _, rfl⟩
       obtain ⟨A', r2, hA'⟩ : ∃ A' r2, doR r x = (A', r2) := ⟨_, _, rfl⟩
       have hN9 : k ≤ 900000 := by omega
       have hsm := Sim.doP HS.out.1.inv hN9 HS.out.2 x
       rw [hA, hA'] at hsm
       have HSM := Lh (show Sim m2 r2 from hsm.2)
       obtain rfl : A' = A := hsm.1
       have HFU := Lh (sim_full HS.out.1.inv hN9 HS.out.2)
       obtain ⟨ns, hns⟩ : ∃ ns, ns = A'.names.map tx := ⟨_, rfl⟩
       have HNL := Lh (show ns.length ≤ 1000000 ∧ A'.lens.length ≤ 1000000 from by
        have h9 := ans_le2 HS.out.1.inv x
        rw [hA] at h9
        simp only at h9
        rw [hns, List.length_map]
        exact ⟨by have := h9.1; omega, by have := h9.2; omega⟩)
       have HDM := Lh (duo_do HS.out.1.drew hN9 x (HQL.out x hxm).1.wf A' m2 hA ns hns)
       have HDR := Lh (fun (W : World) (rows : List (Nat × List Value)) (h : Duo w MB (k + 1) QB W m2 r rows) => duo_rdo h HFU.out.1 HFU.out.2 x (by have := HXS.out; omega) (by have := HXS.out; omega) (by have := HXS.out; omega) A' r2 hA' ns hns)
       have HOL := Lh (show (openedP m2).length ≤ 1000000 from by have := opened_len m2; omega)
       have HKK := Lh (show k + 1 ≤ 20000 from by omega)
       have HBD := Lh HS.out.1.below.drew
       have hkk : k + 1 ≤ l.length := hlt
       clear hx hxm hlt hA hA' hN9 hsm hns
       go_upto_region 12 with fail
       go_region_held3 (fun V => V.cell? ⟨P, o + k * 7, none⟩ = some (.int .i64 x.k) ∧ V.cell? ⟨P, o + k * 7 + 1, none⟩ = some (.string x.p) ∧ V.cell? ⟨P, o + k * 7 + 2, none⟩ = some (.string x.o) ∧ V.cell? ⟨P, o + k * 7 + 3, none⟩ = some (.int .i64 x.fd) ∧ V.cell? ⟨P, o + k * 7 + 4, none⟩ = some (.int .i64 x.n) ∧ V.cell? ⟨P, o + k * 7 + 5, none⟩ = some (.string x.d) ∧ V.cell? ⟨P, o + k * 7 + 6, none⟩ = some (.bool x.on)) (first | exact HCL.out _ HBD.out | exact HCL.out _ H5.out.1.below | exact HCL.out _ H6.out.1.below | exact HCL.out _ H7.out.below | exact HCL.out _ H8.out.1.below | exact HCL.out _ H9.out.1.below | exact HCL.out _ HA.out.below)
        (first
          | (go_at_call 15; refine HDM.out.mono ?_; rintro e W5 ⟨rows5, hD5, hs5, na, la, nc, lc, rfl, hn5, hl5⟩; have H5 := Lh (And.intro hD5 (And.intro hn5 hl5)); clear hD5 hs5 hn5 hl5)
          | (go_at_call 26; refine (HDR.out _ _ H5.out.1).mono ?_; rintro e W6 ⟨rows6, hD6, hs6, nb, lb, nd, ld, rfl, hn6, hl6⟩; have H6 := Lh (And.intro hD6 (And.intro (H5.out.2.1.more hs6) (And.intro (H5.out.2.2.more hs6) (And.intro hn6 hl6)))); clear hD6 hs6 hn6 hl6)
          | (go_at_call 17; refine (same_answer A'.e A'.n (tx A'.d) A'.st.kind A'.st.size A'.st.links A'.st.pin ns A'.lens na nb la lb nc nd lc ld _ HNL.out.1 HNL.out.2 (H6.out.1.val H6.out.2.1) (H6.out.1.val H6.out.2.2.2.1) (H6.out.1.val H6.out.2.2.1) (H6.out.1.val H6.out.2.2.2.2)).mono ?_; rintro e W7 ⟨rfl, b7⟩; have H7 := Lh (H6.out.1.under b7); clear b7)
          | (go_at_call 21; refine (duo_opened H7.out HKK.out).mono ?_; rintro e W8 ⟨oa, oc, rows8, rfl, hD8, hs8, hg8⟩; have H8 := Lh (And.intro hD8 hg8); clear hD8 hs8 hg8)
          | (go_at_call 30; refine (duo_ropened H8.out.1 HKK.out HSM.out).mono ?_; rintro e W9 ⟨ob, od, rows9, rfl, hD9, hs9, hg9⟩; have H9 := Lh (And.intro hD9 (And.intro (H8.out.2.more hs9) hg9)); clear hD9 hs9 hg9)
          | (go_at_call 23; refine (same_opened oa ob oc od (openedP m2) _ HOL.out (H9.out.1.valG (fun _ => rfl) H9.out.2.1) (H9.out.1.valG (fun _ => rfl) H9.out.2.2)).mono ?_; rintro e WA ⟨rfl, bA⟩; have HA := Lh (H9.out.1.under bA); clear bA))
       clear HCL HDM HDR HBD H5 H6 H7 H8 H9 HS c0 c1 c2 c3 c4 c5 c6
       go_wp2_with fail
       go_roundw
       case rel => exact ⟨k + 1, m2, r2, _, hkk, by go_num, Lh ⟨HA.out, HSM.out⟩⟩
       case measure => simp [intOf]; omega
     · obtain rfl : k = l.length := by omega
       have hnl : ¬ ((l.length : Int) < (l.length : Int)) := by omega
       obtain ⟨N, hN9, hDN⟩ : ∃ N, N ≤ 1000 ∧ (Duo w MB N QB wr m r rs ∧ Sim m r) := ⟨l.length, by omega, HS.out⟩
       have G0 := Lh hDN
       have HN9 := Lh (show N ≤ 20000 ∧ N ≤ 900000 ∧ N ≤ 1000 from by omega)
       have HVL := Lh (show (viewP m).length ≤ 1000000 from by have := view_len hDN.1.inv; omega)
       clear hDN HS hN9 D0 hlt
       go_wp2_with fail
       refine (duo_view G0.out.1 HN9.out.1).mono ?_
       rintro e W1 ⟨va, vc, rows1, rfl, hD1, hs1, hg1⟩
       have H1 := Lh (And.intro hD1 hg1)
       clear hD1 hs1 hg1
       go_wp2_with fail
       refine (duo_rview H1.out.1 HN9.out.1 G0.out.2).mono ?_
       rintro e W2 ⟨vb, vd, rows2, rfl, hD2, hs2, hg2⟩
       have H2 := Lh (And.intro hD2 (And.intro (H1.out.2.more hs2) hg2))
       clear hD2 hs2 hg2 H1
       go_wp2_with fail
       refine (same_view va vb vc vd (viewP m) _ HVL.out (H2.out.1.valG itC_len H2.out.2.1) (H2.out.1.valG itC_len H2.out.2.2)).mono ?_
       rintro e W3 ⟨rfl, b3⟩
       have H3 := Lh (H2.out.1.under b3)
       clear b3 H2
       have HAG := Lh (G0.out.2.again G0.out.1.inv)
       have HRF := Lh (sim_full G0.out.1.inv HN9.out.2.1 G0.out.2)
       go_wp2_with fail
       refine (duo_again H3.out HN9.out.2.1 HAG.out.1).mono ?_
       rintro e W4 ⟨rfl, hD4⟩
       have H4 := Lh hD4
       clear hD4 H3
       go_wp2_with fail
       refine (duo_ragain H4.out HRF.out.1).mono ?_
       rintro e W5 ⟨rfl, hD5⟩
       have H5 := Lh hD5
       clear hD5 H4
       have HOP := Lh (opened_again m)
       generalize againP m = m1 at *
       generalize againR r = r1 at *
       clear G0 HRF HVL
       have HIA := Lh HAG.out.1
       have HVL := Lh (show (viewP m1).length ≤ 1000000 from by have := view_len HAG.out.1; have := HN9.out; omega)
       obtain ⟨A, m2, hA⟩ : ∃ A m2, doP m1 usC = (A, m2) := ⟨_, _, rfl⟩
       obtain ⟨A', r2, hA'⟩ : ∃ A' r2, doR r1 usC = (A', r2) := ⟨_, _, rfl⟩
       have hsm := (Sim.doP HAG.out.1 HN9.out.2.1 HAG.out.2 usC).1
       rw [hA, hA'] at hsm
       obtain rfl : A' = A := hsm
       have HFU := Lh (sim_full HAG.out.1 HN9.out.2.1 HAG.out.2)
       obtain ⟨ns, hns⟩ : ∃ ns, ns = A'.names.map tx := ⟨_, rfl⟩
       have HNL := Lh (show ns.length ≤ 1000000 ∧ A'.lens.length ≤ 1000000 from by
        have h9 := ans_le2 HAG.out.1 usC
        rw [hA] at h9
        simp only at h9
        rw [hns, List.length_map]
        exact ⟨by have := h9.1; have := HN9.out; omega, by have := h9.2; omega⟩)
       have HDM := Lh (fun (W : World) (rows : List (Nat × List Value)) (h : Duo w MB N QB W m1 r1 rows) => show Calls Tryz.prog 15 #[.pointer (some ⟨MB, 0, none⟩), .agg #[.int .i64 18, .string ⟨#[]⟩, .string ⟨#[]⟩, .int .i64 0, .int .i64 0, .string ⟨#[]⟩, .bool false]] W fun e W' => ∃ rows', Duo w MB (N + 1) QB W' m2 r1 rows' ∧ RSub rows rows' ∧ AnsX A' ns e rows' from duo_do h HN9.out.2.1 usC (by kernel_rfl) A' m2 hA ns hns)
       have HDR := Lh (fun (W : World) (rows : List (Nat × List Value)) (h : Duo w MB (N + 1) QB W m2 r1 rows) => show Calls Tryz.prog 26 #[.pointer (some ⟨QB, 0, none⟩), .agg #[.int .i64 18, .string ⟨#[]⟩, .string ⟨#[]⟩, .int .i64 0, .int .i64 0, .string ⟨#[]⟩, .bool false]] W fun e W' => ∃ rows', Duo w MB (N + 1) QB W' m2 r2 rows' ∧ RSub rows rows' ∧ AnsX A' ns e rows' from duo_rdo h HFU.out.1 HFU.out.2 usC (Nat.zero_le _) (Nat.zero_le _) (Nat.zero_le _) A' r2 hA' ns hns)
       have HOPN := Lh (fun (W : World) (rows : List (Nat × List Value)) (h : Duo w MB N QB W m1 r1 rows) => show Calls Tryz.prog 21 #[.pointer (some ⟨MB, 0, none⟩)] W fun e W' => ∃ a cap rows', e = .returned (.slice a 0 cap) ∧ Duo w MB N QB W' m1 r1 rows' ∧ RSub rows rows' from by
        have h9 := duo_opened h HN9.out.1
        rw [HOP.out] at h9
        exact h9.mono (fun e W' q => by obtain ⟨a, cap, rows', q1, q2, q3, _⟩ := q; exact ⟨a, cap, rows', q1, q2, q3⟩))
       have HSM := Lh HAG.out.2
       clear hA hA' hns HAG HFU
       go_upto_region 19 with fail
       have H6 := Lh (show Duo w MB N QB _ m1 r1 ((W5.heap.size, callC usC) :: rows2) from H5.out.put (W' := W5.alloc (.cells #[.int .i64 18, .string ⟨#[]⟩, .string ⟨#[]⟩, .int .i64 0, .int .i64 0, .string ⟨#[]⟩, .bool false] 36)) ((Below.refl W5.heap.size W5).alloc (Nat.le_refl _) _) (rowAt_alloc W5 _ _) (Nat.le_refl _))
       clear H5
       generalize World.alloc W5 _ = W6 at *
       generalize W5.heap.size = G at *
       have GD := Lh H6.out.drew
       have HKE := Lh (fun (V : World) (rows : List (Nat × List Value)) (N' : Nat) (m' : Md) (r' : RM) (h : Duo w MB N' QB V m' r' rows) (hm : (G, callC usC) ∈ rows) => show V.cell? ⟨G, 0, none⟩ = some (.int .i64 18) ∧ V.cell? ⟨G, 1, none⟩ = some (.string ⟨#[]⟩) ∧ V.cell? ⟨G, 2, none⟩ = some (.string ⟨#[]⟩) ∧ V.cell? ⟨G, 3, none⟩ = some (.int .i64 0) ∧ V.cell? ⟨G, 4, none⟩ = some (.int .i64 0) ∧ V.cell? ⟨G, 5, none⟩ = some (.string ⟨#[]⟩) ∧ V.cell? ⟨G, 6, none⟩ = some (.bool false) from row7_cells (c := usC) (h.row hm))
       obtain ⟨c0, c1, c2, c3, c4, c5, c6⟩ := HKE.out _ _ _ _ _ H6.out (List.mem_cons_self ..)
       have hgl := (H6.out.row (List.mem_cons_self ..)).lt
       go_region_held3 (fun V => V.cell? ⟨G, 0, none⟩ = some (.int .i64 18) ∧ V.cell? ⟨G, 1, none⟩ = some (.string ⟨#[]⟩) ∧ V.cell? ⟨G, 2, none⟩ = some (.string ⟨#[]⟩) ∧ V.cell? ⟨G, 3, none⟩ = some (.int .i64 0) ∧ V.cell? ⟨G, 4, none⟩ = some (.int .i64 0) ∧ V.cell? ⟨G, 5, none⟩ = some (.string ⟨#[]⟩) ∧ V.cell? ⟨G, 6, none⟩ = some (.bool false)) (first | exact HKE.out _ _ _ _ _ GD.out (List.mem_cons_self ..) | exact HKE.out _ _ _ _ _ H7.out.1 H7.out.2.1 | exact HKE.out _ _ _ _ _ H8.out.1 H8.out.2.1 | exact HKE.out _ _ _ _ _ H9.out.1 H9.out.2 | exact HKE.out _ _ _ _ _ HA.out.1 HA.out.2 | exact HKE.out _ _ _ _ _ HB.out.1 HB.out.2.1 | exact HKE.out _ _ _ _ _ HC.out.1 HC.out.2.1 | exact HKE.out _ _ _ _ _ HD.out.1 HD.out.2 | exact HKE.out _ _ _ _ _ HE.out.1 HE.out.2)
        (first
          | (go_at_call 19; refine (duo_view GD.out HN9.out.1).mono ?_; rintro e W7 ⟨va, vc, rows7, rfl, hD7, hs7, hg7⟩; have H7 := Lh (And.intro hD7 (And.intro (hs7 _ (List.mem_cons_self ..)) hg7)); clear hD7 hs7 hg7)
          | (go_at_call 29; refine (duo_rview H7.out.1 HN9.out.1 HSM.out).mono ?_; rintro e W8 ⟨vb, vd, rows8, rfl, hD8, hs8, hg8⟩; have H8 := Lh (And.intro hD8 (And.intro (hs8 _ H7.out.2.1) (And.intro (H7.out.2.2.more hs8) hg8))); clear hD8 hs8 hg8)
          | (go_at_call 22; refine (same_view va vb vc vd (viewP m1) _ HVL.out (H8.out.1.valG itC_len H8.out.2.2.1) (H8.out.1.valG itC_len H8.out.2.2.2)).mono ?_; rintro e W9 ⟨rfl, b9⟩; have H9 := Lh (And.intro (H8.out.1.under b9) H8.out.2.1); clear b9)
          | (go_at_call 21; refine (HOPN.out _ _ H9.out.1).mono ?_; rintro e WA ⟨oa, oc, rowsA, rfl, hDA, hsA⟩; have HA := Lh (And.intro hDA (hsA _ H9.out.2)); clear hDA hsA)
          | (go_at_call 15; refine (HDM.out _ _ HA.out.1).mono ?_; rintro e WB ⟨rowsB, hDB, hsB, na, la, nc, lc, rfl, hnB, hlB⟩; have HB := Lh (And.intro hDB (And.intro (hsB _ HA.out.2) (And.intro hnB hlB))); clear hDB hsB hnB hlB)
          | (go_at_call 26; refine (HDR.out _ _ HB.out.1).mono ?_; rintro e WC ⟨rowsC, hDC, hsC, nb, lb, nd, ld, rfl, hnC, hlC⟩; have HC := Lh (And.intro hDC (And.intro (hsC _ HB.out.2.1) (And.intro (HB.out.2.2.1.more hsC) (And.intro (HB.out.2.2.2.more hsC) (And.intro hnC hlC))))); clear hDC hsC hnC hlC)
          | (go_at_call 17; refine (same_answer A'.e A'.n (tx A'.d) A'.st.kind A'.st.size A'.st.links A'.st.pin ns A'.lens na nb la lb nc nd lc ld _ HNL.out.1 HNL.out.2 (HC.out.1.val HC.out.2.2.1) (HC.out.1.val HC.out.2.2.2.2.1) (HC.out.1.val HC.out.2.2.2.1) (HC.out.1.val HC.out.2.2.2.2.2)).mono ?_; rintro e WD ⟨rfl, bD⟩; have HD := Lh (And.intro (HC.out.1.under bD) HC.out.2.1); clear bD)
          | (go_at_call 13; refine (lives22 _).mono ?_; rintro e WE ⟨rfl, bE⟩; have HE := Lh (And.intro (HD.out.1.under bE) HD.out.2); clear bE))
       go_wp2_with fail
       go_ret
       exact ⟨rfl, HE.out.1.below⟩
set_option maxRecDepth 100000 in
theorem lifted_modelPlays (os : Os) (started : os.Started) (H : Type) (enc : TypeId × Value → H) :
  ReturnsInHanded {} Tryz.checked os 10 .any (fun w args => (Rows.modelPlaysSpec.pre enc Tryz.prog Tryz.f10 Rows.modelPlaysRow.domain false w args ∧ laidMetH Tryz.prog Rows.modelPlaysRow.laid w) ∧ sizedMet enc Tryz.prog Tryz.f10 (OpenSpec.ofChange Rows.modelPlaysSpec) false w args) (Rows.modelPlaysSpec.post enc Tryz.prog Tryz.f10 false true false false) := by
 refine law_step_laid (C := Tryz.checked) (tb := 4) (by kernel_rfl) (by kernel_rfl) started (by kernel_rfl) Tryz.func10 rfl Tryz.underlying4 rfl ?_ ?_
  (ChangeSpec.witness_shaped (enc := enc) (C := Tryz.checked) (os := os) (X := fun w _ => laidMetH Tryz.prog Rows.modelPlaysRow.laid w) false (World.laidAll Tryz.prog os Rows.modelPlaysRow.laid) #[.int .i64 0, .slice none 0 0] 8 (World.laidAll_os _ _ _)
    (World.shaped_of_ZipB (by kernel_rfl) (by kernel_rfl)) (by kernel_rfl) (by kernel_rfl) (by kernel_rfl)
    (by rw [MakeChecks.laidMetH_plain _ _ _ (by kernel_rfl)]; exact laidMet_laidAll _ (by kernel_rfl) (by kernel_rfl))) ?_
 · intro ds hl
   match ds, hl with
   | [d0, d1], _ => rfl
 · intro t ht
   rw [show Tryz.f10.params.toList = [3, 22] from by rw [Tryz.params10]] at ht
   simp only [List.mem_cons, List.not_mem_nil, or_false] at ht
   rcases ht with rfl | rfl
   · exact ⟨by kernel_rfl, of_decide_eq_true (by kernel_rfl)⟩
   · exact ⟨by kernel_rfl, of_decide_eq_true (by kernel_rfl)⟩
 · intro W args hG
   rw [show Tryz.f10.params.toList = [3, 22] from by rw [Tryz.params10]] at hG
   obtain ⟨v0, v1, rfl, g0, g1⟩ := gotAll_args2 hG
   obtain ⟨a0, rfl, b0, c0⟩ := got_i64 Tryz.underlying3 g0
   obtain ⟨a1, cap1, l1, rfl, hle1, hcm1, hV1, hQ1⟩ := got_calls2 g1
   exact walk_modelPlays W a0 b0 c0 a1 cap1 l1 hle1 hcm1 hV1 hQ1
theorem modelPlays_over : Rows.modelPlaysRow.holds Tryz.pinned (OpenSpec.ofChange Rows.modelPlaysSpec) :=
 OpenClaim.holds_of_wide 10 Tryz.f10 rfl rfl rfl rfl rfl rfl rfl ⟨rfl, rfl, rfl, rfl, rfl⟩ rfl rfl rfl rfl rfl (by kernel_rfl) Tryz.func10 (by kernel_rfl)
  (of_decide_eq_true (by kernel_rfl)) (by unfold Func.isWrapper; first | (rw [if_pos (by decide +kernel)]; kernel_rfl) | (rw [if_neg (by decide +kernel)]; exact ⟨rfl, rfl⟩))
  (fun os started H enc _ => lifted_modelPlays os started H enc)
theorem modelPlays_holds : Rows.ModelPlaysCardSaid :=
 Claim7.holds_tied_plain_at .later [] [.data, .pinned] true (true, "a2858bb3599f325511a5ea6afc3cb64a7205ceb57b21c251972803503bc7930f") true modelPlays_over (fun _ h => by cases h) (by kernel_rfl) (fun _ h => by cases h) modelPlays_row_tie rfl ⟨rfl, rfl⟩ (by kernel_rfl) rfl
  (fun f fn hf hfn => by
    obtain rfl : f = 10 := Option.some.inj ((show Tryz.prog.funcNamed "glissade/glissadelaw22.ModelPlays" = some 10 by kernel_rfl).symm.trans hf) |>.symm
    obtain rfl : fn = Tryz.f10 := (Option.some.inj (Tryz.func10.symm.trans hfn)).symm
    exact ⟨by kernel_rfl, fun j t ht => by
     rw [Tryz.params10] at ht
     have hm : t ∈ [3, 22] := by simpa using Array.mem_of_getElem? ht
     have hall : ([3, 22].all fun u => !Tryz.prog.wantsStandIn u) = true := by kernel_rfl
     exact (show Tryz.prog.wantsStandIn t = false by simpa using List.all_eq_true.1 hall t hm)⟩)
  (by kernel_rfl)
#print axioms modelPlays_holds
end Go.Proofs.YtppdihpobokfnaaGreatDoor
