/- For every input the law glissadelaw22.ModelShort returns true; within the numbers of calls that the law itself asks; else it returns true at once; a tied card: two package variables of unicode/utf8 are laid as the text lays them; the card speaks of a pruned copy of the project. -/
import Derived.SevenTiedAt
import Derived.Test.YtppdihpobokfnaaGreatDoorGDu
import Derived.Test.YtppdihpobokfnaaGreatDoorTie
import Derived.Test.YtppdihpobokfnaaGreatDoorCards
set_option linter.unusedVariables false
set_option linter.unusedSimpArgs false
set_option maxRecDepth 100000
namespace Go.Proofs.YtppdihpobokfnaaGreatDoor
open Go.RowKit Go.Joins
theorem valG_callS (W : World) (c : Cl) (t : TypeId) : ValG (W.alloc (.cells #[.int .i64 c.k, .string c.p, .string c.o, .int .i64 c.fd, .int .i64 c.n, .string c.d, .bool c.on] t)) (some ⟨W.heap.size, 0, none⟩) 7 ([c].map callC) := valG_new W (callC c) t
set_option maxHeartbeats 16000000 in
theorem walk_modelShort (w : World) (a : Option Addr) (cap : Nat) (l : List Cl) (hle : l.length ≤ cap) (hcm : cap ≤ maxLen) (hV : ValG w a 7 (l.map callC)) (hQ : ∀ c ∈ l, ClIn c) (c : Cl) (hc : ClIn c) (n : Int) (hn1 : -9223372036854775808 ≤ n) (hn2 : n ≤ 9223372036854775807) :
  Calls Tryz.prog 8 #[.slice a l.length cap, .agg #[.int .i64 c.k, .string c.p, .string c.o, .int .i64 c.fd, .int .i64 c.n, .string c.d, .bool c.on], .int .i64 n] w fun e w' => e = .returned (.bool true) ∧ Below w.heap.size w w' := by
 have HOK := Lh hc
 have hr := rowAt_alloc w #[.int .i64 c.k, .string c.p, .string c.o, .int .i64 c.fd, .int .i64 c.n, .string c.d, .bool c.on] 36
 have B := (Below.refl w.heap.size w).alloc (Nat.le_refl _) (.cells #[.int .i64 c.k, .string c.p, .string c.o, .int .i64 c.fd, .int .i64 c.n, .string c.d, .bool c.on] 36)
 have HBY := Lh (beyond22W a cap l 40 3000 _ (by omega) (by omega) (by omega) (hV.below B) hQ)
 have HV := Lh (And.intro (hV.below B) hQ)
 have HV0 := Lh hV
 have HQL := Lh hQ
 have HC := Lh (show RowAt (w.alloc (.cells #[.int .i64 c.k, .string c.p, .string c.o, .int .i64 c.fd, .int .i64 c.n, .string c.d, .bool c.on] 36)) w.heap.size (callC c) ∧ Below w.heap.size w (w.alloc (.cells #[.int .i64 c.k, .string c.p, .string c.o, .int .i64 c.fd, .int .i64 c.n, .string c.d, .bool c.on] 36)) from ⟨hr, B⟩)
 clear hle hcm hV hQ hr B hc hn1 hn2
 go_enter Tryz.func8, Tryz.ntmps8
 go_upto_region 1 with fail
 generalize w.alloc (.cells #[.int .i64 c.k, .string c.p, .string c.o, .int .i64 c.fd, .int .i64 c.n, .string c.d, .bool c.on] 36) = W1 at *
 go_wp2_with fail
 refine HBY.out.mono ?_
 rintro e W2 ⟨⟨b, rfl, hlen⟩, hb⟩
 have HLEN := Lh hlen
 have H2 := Lh (And.intro (HC.out.1.below hb HC.out.1.lt) (HC.out.2.trans (hb.mono HC.out.2.size)))
 clear hlen hb HBY HC
 cases b with
 | true =>
  go_wp2_with fail
  refine (lives22 _).mono ?_
  rintro e W9 ⟨rfl, hb⟩
  have B9 := Lh (H2.out.2.trans (hb.mono H2.out.2.size))
  clear hb
  go_wp2_with fail
  go_ret
  exact ⟨rfl, B9.out⟩
 | false =>
  have HL := Lh (HLEN.out rfl)
  clear HLEN
  have HBY := Lh (beyond22W (some ⟨W2.heap.size, 0, none⟩) 1 [c] 1 3000 (W2.alloc (.cells #[.int .i64 c.k, .string c.p, .string c.o, .int .i64 c.fd, .int .i64 c.n, .string c.d, .bool c.on] 36)) (by simp [maxLen]) (by omega) (by omega) (valG_callS W2 c _) (fun x hx => by rw [List.mem_singleton.1 hx]; exact HOK.out))
  have hb : Below W2.heap.size W2 (W2.alloc (.cells #[.int .i64 c.k, .string c.p, .string c.o, .int .i64 c.fd, .int .i64 c.n, .string c.d, .bool c.on] 36)) := (Below.refl W2.heap.size W2).alloc (Nat.le_refl _) _
  obtain ⟨a0, a1, a2, a3, a4, a5, a6⟩ := row7_cells H2.out.1
  go_wp2_with fail
  clear a0 a1 a2 a3 a4 a5 a6
  refine HBY.out.mono ?_
  rintro e W3 ⟨⟨b, rfl, hlc⟩, hb3⟩
  have hb3 : Below W2.heap.size W2 W3 := hb.trans (hb3.mono hb.size)
  have H3 := Lh (And.intro (H2.out.1.below hb3 H2.out.1.lt) (H2.out.2.trans (hb3.mono H2.out.2.size)))
  have HLC := Lh hlc
  clear hb hb3 HBY H2 hlc
  cases b with
  | true =>
   go_wp2_with fail
   refine (lives22 _).mono ?_
   rintro e W9 ⟨rfl, hb⟩
   have B9 := Lh (H3.out.2.trans (hb.mono H3.out.2.size))
   clear hb
   go_wp2_with fail
   go_ret
   exact ⟨rfl, B9.out⟩
  | false =>
   have HCS := Lh ((HLC.out rfl).2 c (by simp))
   have HN := Lh (show Calls Tryz.prog 18 #[.int .i64 20] W3 fun e w' => ∃ R : Rp, e = .returned (.tuple #[.pointer (some ⟨R.mb, 0, none⟩), .int .i64 0]) ∧ MdAt w' R (newP 20) ∧ Below W3.heap.size W3 w' ∧ ∀ b, b < W3.heap.size → R.L b = none from mnew 20 W3 ⟨by omega, by omega⟩)
   have HQ := Lh (fun W => show Calls Tryz.prog 25 #[.int .i64 20] W fun e w' => ∃ Q : Rr, e = .returned (.tuple #[.pointer (some ⟨Q.b, 0, none⟩), .int .i64 0]) ∧ DocAt w' Q (newRM 20) ∧ Below W.heap.size W w' ∧ ∀ k, Q.O k → W.heap.size ≤ k from r22new 20 W ⟨by omega, by omega⟩)
   clear HLC
   go_wp2_with fail
   refine HN.out.mono ?_
   rintro e W4 ⟨R, rfl, hM, hb4, hL4⟩
   have HM := Lh (And.intro hM (And.intro hb4 hL4))
   clear hM hb4 hL4 HN
   go_wp2_with fail
   refine (HQ.out _).mono ?_
   rintro e W5 ⟨Q, rfl, hD, hb5, hq5⟩
   have D0 := Lh (duo_start H3.out.2 ⟨by omega, by omega⟩ HM.out.1 HM.out.2.1 HM.out.2.2 hD hb5 hq5 (rows := [(w.heap.size, callC c)]) (fun p hp => by rw [List.mem_singleton.1 hp]; exact H3.out.1))
   have hll : (l.length : Int) ≤ 40 := by have := HL.out.1; omega
   clear hD hb5 hq5 HM HQ H3 HV
   generalize R.mb = MB at *
   generalize Q.b = QB at *
   go_wp2_with fail
   go_loopw [11] (fun jj wr => ∃ (k : Nat) (m : Md) (r : RM) (rs : List (Nat × List Value)), k ≤ l.length ∧ jj = .int .i64 (k : Int) ∧ Hid (Duo w MB k QB wr m r rs ∧ Sim m r ∧ (w.heap.size, callC c) ∈ rs)) (fun jj _ => l.length - (intOf jj).toNat)
   case atStart => exact ⟨0, newP 20, newRM 20, _, by omega, rfl, Lh ⟨D0.out, Sim.new 20, by simp⟩⟩
   case round =>
    obtain ⟨k, m, r, rs, hk, rfl, HS⟩ := hrel
    by_cases hlt : k < l.length
    · obtain ⟨x, hx⟩ : ∃ x, l[k]? = some x := ⟨_, List.getElem?_eq_getElem hlt⟩
      obtain ⟨P, o, rfl, hP, _⟩ := (HV0.out.below HS.out.1.below).at (i := k) (xs := callC x) (by rw [List.getElem?_map, hx]; rfl)
      have HCL := Lh (fun W (hb : Below w.heap.size w W) => cl_cellsD (HV0.out.below hb) hx)
      obtain ⟨c0, c1, c2, c3, c4, c5, c6⟩ := HCL.out _ HS.out.1.below
      have i1 : (k : Int) < (l.length : Int) := by omega
      have i2 : (0 : Int) ≤ (k : Int) := by omega
      have hxm := List.mem_of_getElem? hx
      have HXS := Lh (HL.out.2 x hxm)
      obtain ⟨A, m2, hA⟩ : ∃ A m2, doP m x = (A, m2) := ⟨_, _, rfl⟩
      obtain ⟨A', r2, hA'⟩ : ∃ A' r2, doR r x = (A', r2) := ⟨_, _, rfl⟩
      have hN9 : k ≤ 900000 := by omega
      have HSM := Lh (show Sim m2 r2 from by have := (Sim.doP HS.out.1.inv hN9 HS.out.2.1 x).2; rw [hA, hA'] at this; exact this)
      have HFU := Lh (sim_full HS.out.1.inv hN9 HS.out.2.1)
      have HDM := Lh (duo_do HS.out.1 hN9 x (HQL.out x hxm).1.wf A m2 hA _ rfl)
      have HDR := Lh (fun (W : World) (rows : List (Nat × List Value)) (h : Duo w MB (k + 1) QB W m2 r rows) => duo_rdo h HFU.out.1 HFU.out.2 x (by have := HXS.out; omega) (by have := HXS.out; omega) (by have := HXS.out; omega) A' r2 hA' _ rfl)
      have hkk : k + 1 ≤ l.length := hlt
      clear hx hxm hlt hA hA' hP hN9
      go_wp2_with fail
      refine HDM.out.mono ?_
      rintro e W6 ⟨rows6, hD6, hs6, na, la, nc, lc, rfl, _, _⟩
      have D6 := Lh (And.intro hD6 (hs6 _ HS.out.2.2))
      clear c0 c1 c2 c3 c4 c5 c6 hD6 hs6 HDM HS
      obtain ⟨c0, c1, c2, c3, c4, c5, c6⟩ := HCL.out _ D6.out.1.below
      go_wp2_with fail
      refine (HDR.out _ _ D6.out.1).mono ?_
      rintro e W7 ⟨rows7, hD7, hs7, na2, la2, nc2, lc2, rfl, _, _⟩
      have D7 := Lh (And.intro hD7 (And.intro HSM.out (hs7 _ D6.out.2)))
      clear c0 c1 c2 c3 c4 c5 c6 hD7 hs7 HDR D6 HCL
      go_wp2_with fail
      go_roundw
      case rel => exact ⟨k + 1, m2, r2, rows7, hkk, by go_num, D7⟩
      case measure => simp [intOf]; omega
    · obtain rfl : k = l.length := by omega
      have hnl : ¬ ((l.length : Int) < (l.length : Int)) := by omega
      obtain ⟨N, hN9, hDN⟩ : ∃ N, N ≤ 1000 ∧ (Duo w MB N QB wr m r rs ∧ Sim m r ∧ (w.heap.size, callC c) ∈ rs) := ⟨l.length, by omega, HS.out⟩
      have G0 := Lh hDN
      have HN9 := Lh hN9
      clear hDN HS hN9
      obtain ⟨A, m2, hA⟩ : ∃ A m2, shortP m c n = (A, m2) := ⟨_, _, rfl⟩
      obtain ⟨A', r2, hA'⟩ : ∃ A' r2, shortR r c n = (A', r2) := ⟨_, _, rfl⟩
      have hsm := G0.out.2.1.short G0.out.1.inv c n
      rw [hA, hA'] at hsm
      have HSM := Lh (show Sim m2 r2 from hsm.2)
      obtain rfl : A' = A := hsm.1
      have HFU := Lh (sim_full G0.out.1.inv (by have := HN9.out; omega) G0.out.2.1)
      obtain ⟨ns, hns⟩ : ∃ ns, ns = A'.names.map tx := ⟨_, rfl⟩
      have hnl0 : ns = [] ∧ A'.lens = [] := by
       have h9 := short_lists m c n
       rw [hA] at h9
       exact ⟨by rw [hns, h9.1]; rfl, h9.2⟩
      have HNL := Lh hnl0
      have HDM := Lh (duo_short G0.out.1.drew (by have := HN9.out; omega) c n (by have := HCS.out; omega) A' m2 hA ns hns)
      have HDR := Lh (fun (W : World) (rows : List (Nat × List Value)) (h : Duo w MB N QB W m2 r rows) => duo_rshort h HFU.out.1 c n (by have := HCS.out; omega) A' r2 hA' ns hns)
      obtain ⟨c0, c1, c2, c3, c4, c5, c6⟩ := row7_cells (G0.out.1.row G0.out.2.2)
      have hbx := (G0.out.1.row G0.out.2.2).lt
      have GD := Lh (And.intro G0.out.1.drew G0.out.2.2)
      have HI2 := Lh (show Inv N Nul m2 from by have := G0.out.1.inv.short c n; rw [hA] at this; exact this)
      have HVL := Lh (show (viewP m2).length ≤ 1000000 from by have := view_len HI2.out; have := HN9.out; omega)
      have HOL := Lh (show (openedP m2).length ≤ 1000000 from by have := opened_len m2; omega)
      have HNN := Lh (show N ≤ 20000 from by have := HN9.out; omega)
      clear hA hA' hsm hns hnl0 D0 hlt HL HV0 HQL HCS HOK
      go_upto_region 12 with fail
      go_region_held3 (fun V => V.cell? ⟨w.heap.size, 0, none⟩ = some (.int .i64 c.k) ∧ V.cell? ⟨w.heap.size, 1, none⟩ = some (.string c.p) ∧ V.cell? ⟨w.heap.size, 2, none⟩ = some (.string c.o) ∧ V.cell? ⟨w.heap.size, 3, none⟩ = some (.int .i64 c.fd) ∧ V.cell? ⟨w.heap.size, 4, none⟩ = some (.int .i64 c.n) ∧ V.cell? ⟨w.heap.size, 5, none⟩ = some (.string c.d) ∧ V.cell? ⟨w.heap.size, 6, none⟩ = some (.bool c.on)) (first | exact row7_cells (GD.out.1.row GD.out.2) | exact row7_cells (H5.out.1.row H5.out.2.1) | exact row7_cells (H6.out.1.row H6.out.2.1) | exact row7_cells (H7.out.1.row H7.out.2) | exact row7_cells (H8.out.1.row H8.out.2.1) | exact row7_cells (H9.out.1.row H9.out.2.1) | exact row7_cells (HA.out.1.row HA.out.2) | exact row7_cells (HB.out.1.row HB.out.2.1) | exact row7_cells (HC.out.1.row HC.out.2.1) | exact row7_cells (HD.out.1.row HD.out.2) | exact row7_cells (HE.out.1.row HE.out.2))
       (first
         | (go_at_call 27; refine HDM.out.mono ?_; rintro e W5 ⟨rows5, hD5, hs5, na, la, nc, lc, rfl, hn5, hl5⟩; have H5 := Lh (And.intro hD5 (And.intro (hs5 _ GD.out.2) (And.intro hn5 hl5))); clear hD5 hs5 hn5 hl5)
         | (go_at_call 28; refine (HDR.out _ _ H5.out.1).mono ?_; rintro e W6 ⟨rows6, hD6, hs6, nb, lb, nd, ld, rfl, hn6, hl6⟩; have H6 := Lh (And.intro hD6 (And.intro (hs6 _ H5.out.2.1) (And.intro (H5.out.2.2.1.more hs6) (And.intro (H5.out.2.2.2.more hs6) (And.intro hn6 hl6))))); clear hD6 hs6 hn6 hl6)
         | (go_at_call 17; refine (same_answer A'.e A'.n (tx A'.d) A'.st.kind A'.st.size A'.st.links A'.st.pin ns A'.lens na nb la lb nc nd lc ld _ (by rw [HNL.out.1]; exact Nat.zero_le _) (by rw [HNL.out.2]; exact Nat.zero_le _) (H6.out.1.val H6.out.2.2.1) (H6.out.1.val H6.out.2.2.2.2.1) (H6.out.1.val H6.out.2.2.2.1) (H6.out.1.val H6.out.2.2.2.2.2)).mono ?_; rintro e W7 ⟨rfl, b7⟩; have H7 := Lh (And.intro (H6.out.1.under b7) H6.out.2.1); clear b7)
         | (go_at_call 19; refine (duo_view H7.out.1 HNN.out).mono ?_; rintro e W8 ⟨va, vc, rows8, rfl, hD8, hs8, hg8⟩; have H8 := Lh (And.intro hD8 (And.intro (hs8 _ H7.out.2) hg8)); clear hD8 hs8 hg8)
         | (go_at_call 29; refine (duo_rview H8.out.1 HNN.out HSM.out).mono ?_; rintro e W9 ⟨vb, vd, rows9, rfl, hD9, hs9, hg9⟩; have H9 := Lh (And.intro hD9 (And.intro (hs9 _ H8.out.2.1) (And.intro (H8.out.2.2.more hs9) hg9))); clear hD9 hs9 hg9)
         | (go_at_call 22; refine (same_view va vb vc vd (viewP m2) _ HVL.out (H9.out.1.valG itC_len H9.out.2.2.1) (H9.out.1.valG itC_len H9.out.2.2.2)).mono ?_; rintro e WA ⟨rfl, bA⟩; have HA := Lh (And.intro (H9.out.1.under bA) H9.out.2.1); clear bA)
         | (go_at_call 21; refine (duo_opened HA.out.1 HNN.out).mono ?_; rintro e WB ⟨oa, oc, rowsB, rfl, hDB, hsB, hgB⟩; have HB := Lh (And.intro hDB (And.intro (hsB _ HA.out.2) hgB)); clear hDB hsB hgB)
         | (go_at_call 30; refine (duo_ropened HB.out.1 HNN.out HSM.out).mono ?_; rintro e WC ⟨ob, od, rowsC, rfl, hDC, hsC, hgC⟩; have HC := Lh (And.intro hDC (And.intro (hsC _ HB.out.2.1) (And.intro (HB.out.2.2.more hsC) hgC))); clear hDC hsC hgC)
         | (go_at_call 23; refine (same_opened oa ob oc od (openedP m2) _ HOL.out (HC.out.1.valG (fun _ => rfl) HC.out.2.2.1) (HC.out.1.valG (fun _ => rfl) HC.out.2.2.2)).mono ?_; rintro e WD ⟨rfl, bD⟩; have HD := Lh (And.intro (HC.out.1.under bD) HC.out.2.1); clear bD)
         | (go_at_call 13; refine (lives22 _).mono ?_; rintro e WE ⟨rfl, bE⟩; have HE := Lh (And.intro (HD.out.1.under bE) HD.out.2); clear bE))
      go_wp2_with fail
      go_ret
      exact ⟨rfl, HE.out.1.below⟩
set_option maxRecDepth 100000 in
theorem lifted_modelShort (os : Os) (started : os.Started) (H : Type) (enc : TypeId × Value → H) :
  ReturnsInHanded {} Tryz.checked os 8 .any (fun w args => (Rows.modelShortSpec.pre enc Tryz.prog Tryz.f8 Rows.modelShortRow.domain false w args ∧ laidMetH Tryz.prog Rows.modelShortRow.laid w) ∧ sizedMet enc Tryz.prog Tryz.f8 (OpenSpec.ofChange Rows.modelShortSpec) false w args) (Rows.modelShortSpec.post enc Tryz.prog Tryz.f8 false true false false) := by
 refine law_step_laid (C := Tryz.checked) (tb := 4) (by kernel_rfl) (by kernel_rfl) started (by kernel_rfl) Tryz.func8 rfl Tryz.underlying4 rfl ?_ ?_
  (ChangeSpec.witness_shaped (enc := enc) (C := Tryz.checked) (os := os) (X := fun w _ => laidMetH Tryz.prog Rows.modelShortRow.laid w) false (World.laidAll Tryz.prog os Rows.modelShortRow.laid) #[.slice none 0 0, .agg #[.int .i64 0, .string ByteArray.empty, .string ByteArray.empty, .int .i64 0, .int .i64 0, .string ByteArray.empty, .bool false], .int .i64 0] 8 (World.laidAll_os _ _ _)
    (World.shaped_of_ZipB (by kernel_rfl) (by kernel_rfl)) (by kernel_rfl) (by kernel_rfl) (by kernel_rfl)
    (by rw [MakeChecks.laidMetH_plain _ _ _ (by kernel_rfl)]; exact laidMet_laidAll _ (by kernel_rfl) (by kernel_rfl))) ?_
 · intro ds hl
   match ds, hl with
   | [d0, d1, d2], _ => rfl
 · intro t ht
   rw [show Tryz.f8.params.toList = [22, 36, 3] from by rw [Tryz.params8]] at ht
   simp only [List.mem_cons, List.not_mem_nil, or_false] at ht
   rcases ht with rfl | rfl | rfl
   · exact ⟨by kernel_rfl, of_decide_eq_true (by kernel_rfl)⟩
   · exact ⟨by kernel_rfl, of_decide_eq_true (by kernel_rfl)⟩
   · exact ⟨by kernel_rfl, of_decide_eq_true (by kernel_rfl)⟩
 · intro W args hG
   rw [show Tryz.f8.params.toList = [22, 36, 3] from by rw [Tryz.params8]] at hG
   obtain ⟨v0, v1, v2, rfl, g0, g1, g2⟩ := gotAll_args3 hG
   obtain ⟨a0, cap0, l0, rfl, hle0, hcm0, hV0, hQ0⟩ := got_calls2 g0
   obtain ⟨c1, rfl, hc1⟩ := got_call2 g1
   obtain ⟨a2, rfl, b2, c2⟩ := got_i64 Tryz.underlying3 g2
   exact walk_modelShort W a0 cap0 l0 hle0 hcm0 hV0 hQ0 c1 hc1 a2 b2 c2
theorem modelShort_over : Rows.modelShortRow.holds Tryz.pinned (OpenSpec.ofChange Rows.modelShortSpec) :=
 OpenClaim.holds_of_wide 8 Tryz.f8 rfl rfl rfl rfl rfl rfl rfl ⟨rfl, rfl, rfl, rfl, rfl⟩ rfl rfl rfl rfl rfl (by kernel_rfl) Tryz.func8 (by kernel_rfl)
  (of_decide_eq_true (by kernel_rfl)) (by unfold Func.isWrapper; first | (rw [if_pos (by decide +kernel)]; kernel_rfl) | (rw [if_neg (by decide +kernel)]; exact ⟨rfl, rfl⟩))
  (fun os started H enc _ => lifted_modelShort os started H enc)
theorem modelShort_holds : Rows.ModelShortCardSaid :=
 Claim7.holds_tied_plain_at .later [] [.data, .pinned] true (true, "a2858bb3599f325511a5ea6afc3cb64a7205ceb57b21c251972803503bc7930f") true modelShort_over (fun _ h => by cases h) (by kernel_rfl) (fun _ h => by cases h) modelShort_row_tie rfl ⟨rfl, rfl⟩ (by kernel_rfl) rfl
  (fun f fn hf hfn => by
    obtain rfl : f = 8 := Option.some.inj ((show Tryz.prog.funcNamed "glissade/glissadelaw22.ModelShort" = some 8 by kernel_rfl).symm.trans hf) |>.symm
    obtain rfl : fn = Tryz.f8 := (Option.some.inj (Tryz.func8.symm.trans hfn)).symm
    exact ⟨by kernel_rfl, fun j t ht => by
     rw [Tryz.params8] at ht
     have hm : t ∈ [22, 36, 3] := by simpa using Array.mem_of_getElem? ht
     have hall : ([22, 36, 3].all fun u => !Tryz.prog.wantsStandIn u) = true := by kernel_rfl
     exact (show Tryz.prog.wantsStandIn t = false by simpa using List.all_eq_true.1 hall t hm)⟩)
  (by kernel_rfl)
#print axioms modelShort_holds
end Go.Proofs.YtppdihpobokfnaaGreatDoor
