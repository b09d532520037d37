/- For every input the law glissadelaw22.ModelWhole returns true; within the numbers of calls that the law itself asks; else it returns true at once; a tied card: two package variables of unicode/utf8 are laid as the text lays them; the card speaks of a pruned copy of the project. -/
import Derived.BigQuiet
import Derived.Deep.QuietTactic
import Derived.Deep.RegionHeld3
import Derived.SevenTiedAt
import Derived.Test.YtppdihpobokfnaaGreatDoorModW44
import Derived.Test.YtppdihpobokfnaaGreatDoorGJ
import Derived.Test.YtppdihpobokfnaaGreatDoorTie
import Derived.Test.YtppdihpobokfnaaGreatDoorCards
import Derived.Test.YtppdihpobokfnaaGreatDoorGBase
set_option linter.unusedVariables false
set_option linter.unusedSimpArgs false
set_option maxRecDepth 100000
namespace Go.Proofs.YtppdihpobokfnaaGreatDoor
open Go.RowKit Go.Joins

theorem view_data {N : Nat} {X : Nat → Prop} {m : Md} (h : Inv N X m) : ∀ y ∈ viewP m, y.data.length ≤ 1000000 := fun y hy => by
  unfold viewP at hy
  simp only [] at hy
  obtain ⟨z, hz, rfl⟩ := List.mem_map.1 hy
  obtain ⟨d, hd⟩ := all_there h z hz
  have := (h.shape _ _ hd).2.2
  show (m.get z.2).data.length ≤ 1000000
  rw [Md.get_look hd]; omega
theorem usage_is (m : Md) : doP m ⟨18, ⟨#[]⟩, ⟨#[]⟩, 0, 0, ⟨#[]⟩, false⟩ = (usageP m, m) := rfl
theorem lv_usage {w W : World} {MB N : Nat} {m : Md} {rows : List (Nat × List Value)} (h : Lv w MB N W m rows) (hN : N ≤ 900000) :
    Calls Tryz.prog 15 #[.pointer (some ⟨MB, 0, none⟩), .agg #[.int .i64 18, .string ⟨#[]⟩, .string ⟨#[]⟩, .int .i64 0, .int .i64 0, .string ⟨#[]⟩, .bool false]] W fun e W' => ∃ (na : Option Addr) (g nc lc : Nat) (rows' : List (Nat × List Value)),
      e = .returned (.agg #[.int .i64 0, .int .i64 0, .string ⟨#[]⟩, .slice na 0 nc, .int .i64 0, .int .i64 0, .int .i64 0, .bool false, .slice (some ⟨g, 0, none⟩) 1 lc, .bool false]) ∧ Lv w MB (N + 1) W' m rows' ∧ RSub rows rows' ∧ (g, [.int .i64 ((m.limit : Int) - (m.nodes.length : Int))]) ∈ rows' := by
  refine (lv_do h hN ⟨18, ⟨#[]⟩, ⟨#[]⟩, 0, 0, ⟨#[]⟩, false⟩ (show (Lit.int .i64 18).wf = true by decide)).mono ?_
  rw [usage_is]
  rintro e W' ⟨na, la, nc, lc, rw', rfl, hL, hsub, _, hl⟩
  rcases hl with ⟨h1, _⟩ | ⟨g, cap, e, hm⟩
  · cases h1
  · injection e with e1 _ e3
    subst e1
    exact ⟨na, g, nc, lc, rw', rfl, hL, hsub, hm⟩

set_option maxHeartbeats 16000000 in
theorem walk_modelWhole (w : World) (x : Int) (hx0 : 0 ≤ x) (hx1 : x ≤ 255) (a : Option Addr) (cap : Nat) (l : List Cl) (hle : l.length ≤ cap) (hcm : cap ≤ maxLen) (hV : ValG w a 7 (l.map callC)) (hQ : ∀ c ∈ l, ClOk c) :
    Calls Tryz.prog 5 #[.int .u8 x, .slice a l.length cap] w fun e w' => e = .returned (.bool true) ∧ Below w.heap.size w w' := by
  obtain ⟨k0, rfl⟩ : ∃ k : Nat, x = (k : Int) := ⟨x.toNat, by omega⟩
  have HBY := Lib.hid (beyond22 a cap l 60 3000 w (by omega) (by omega) (by omega) hV)
  have HV := Lib.hid (And.intro hV hQ)
  have hk1 : (k0 : Int) ≤ 255 := by omega
  have hk0 : (0 : Int) ≤ (k0 : Int) := by omega
  clear hle hcm hV hQ hx0 hx1
  go_enter Tryz.func5, Tryz.ntmps5
  go_wp2_with fail
  refine HBY.out.mono ?_
  rintro e W ⟨⟨b, rfl, hlen⟩, hb⟩
  have B := Lib.hid hb
  have HLEN := Lib.hid hlen
  clear hb hlen HBY
  cases b with
  | true =>
    go_wp2_with fail
    refine (lives22 _).mono ?_
    rintro e W9 ⟨rfl, hb⟩
    have B9 := Lib.hid (B.out.trans (hb.mono B.out.size))
    clear hb
    go_wp2_with fail
    go_ret
    exact ⟨rfl, B9.out⟩
  | false =>
    have HL := Lib.hid (HLEN.out rfl)
    clear HLEN
    have HNW := Lib.hid (lv_new w W B.out (8 + k0) (by omega) [] (fun p hp => by cases hp))
    rw [show ((8 + k0 : Nat) : Int) = 8 + (k0 : Int) by omega] at HNW
    have hll : (l.length : Int) ≤ 1000 := by have := HL.out; omega
    go_wp2_with fail
    refine HNW.out.mono ?_
    rintro e W1 ⟨MB, rfl, hL⟩
    have L := Lib.hid hL
    clear hL HNW B
    try clear W
    go_wp2_with fail
    go_loopw [8] (fun jj wr => ∃ (k : Nat) (rs : List (Nat × List Value)), k ≤ l.length ∧ jj = .int .i64 (k : Int) ∧ Hid (Lv w MB (2 * k) wr (playP (newP (8 + k0)) (l.take k)) rs)) (fun jj _ => l.length - (intOf jj).toNat)
    case atStart => exact ⟨0, [], by omega, rfl, L.out⟩
    case round =>
      obtain ⟨k, rs, hk, rfl, LK⟩ := hrel
      by_cases hlt : k < l.length
      · obtain ⟨y, hy⟩ : ∃ y, l[k]? = some y := ⟨_, List.getElem?_eq_getElem hlt⟩
        obtain ⟨P, o, rfl, hP, c0, c1, c2, c3, c4, c5, c6⟩ := call_cells (HV.out.1.below LK.out.below) hy
        have i1 : (k : Int) < (l.length : Int) := by omega
        have i2 : (0 : Int) ≤ (k : Int) := by omega
        have hst : playP (newP (8 + k0)) (l.take (k + 1)) = (doP (playP (newP (8 + k0)) (l.take k)) y).2 := by rw [take_one hy, playP_snoc]
        have HC := Lib.hid (lv_do LK.out (by have := HL.out; omega) y (HV.out.2 y (List.mem_of_getElem? hy)).wf)
        have HST := Lib.hid hst
        clear hy hlt hst
        go_wp2_with fail
        refine HC.out.mono ?_
        rintro e W5 ⟨na, la, nc, lc, rs', rfl, hL5, hsub, _, _⟩
        rw [← HST.out] at hL5
        have L5 := Lib.hid hL5
        clear hL5 hsub HC c0 c1 c2 c3 c4 c5 c6 HST
        have HU := Lib.hid (lv_usage L5.out (by have := HL.out; omega))
        have hlim : (playP (newP (8 + k0)) (l.take (k + 1))).limit = 8 + k0 := (lim_play 0 (l.take (k + 1)) (newP (8 + k0))).trans rfl
        obtain ⟨z, hz⟩ : ∃ z, z = ((playP (newP (8 + k0)) (l.take (k + 1))).limit : Int) - ((playP (newP (8 + k0)) (l.take (k + 1))).nodes.length : Int) := ⟨_, rfl⟩
        rw [← hz] at HU
        have hz0 : ¬ z < 0 := by have := L5.out.inv.many; omega
        have hz1 : z < 8 + (k0 : Int) := by
          obtain ⟨d, hd, _⟩ := L5.out.inv.root
          have := List.length_pos_of_mem (lookK_mem hd)
          omega
        clear hz hlim
        go_wp2_with fail
        refine HU.out.mono ?_
        rintro e W6 ⟨na, g, nc, lc, rs2, rfl, hL6, _, hm⟩
        have L6 := Lib.hid (And.intro hL6 hm)
        clear hL6 hm HU L5
        have HR := Lib.hid (L6.out.1.alloc #[.int .i64 0, .int .i64 0, .string ⟨#[]⟩, .slice na 0 nc, .int .i64 0, .int .i64 0, .int .i64 0, .bool false, .slice (some ⟨g, 0, none⟩) 1 lc, .bool false] 33)
        go_upto_region 12 with fail
        have f0 := (HR.out.row (List.mem_cons_self ..)).cell 0 (by simp)
        have f8 := (HR.out.row (List.mem_cons_self ..)).cell 8 (by simp)
        have g0 := (HR.out.row (List.mem_cons_of_mem _ L6.out.2)).cell 0 (by simp)
        have f9 := (HR.out.row (List.mem_cons_self ..)).lt
        generalize World.alloc W6 _ = W7 at *
        generalize W6.heap.size = G7 at *
        clear L6
        go_wp2_with fail
        go_roundw
        case rel => exact ⟨k + 1, _, by omega, by go_num, by rw [show 2 * (k + 1) = 2 * k + 1 + 1 by omega]; exact HR.out⟩
        case measure => simp [intOf] <;> omega
      · obtain rfl : k = l.length := by omega
        have hnl : ¬ ((l.length : Int) < (l.length : Int)) := by omega
        obtain ⟨N, m, hN, hm, hL⟩ : ∃ N m, N ≤ 1000 ∧ m.limit = 8 + k0 ∧ Lv w MB N wr m rs := ⟨_, _, by have := HL.out; omega, (lim_play 0 (l.take l.length) (newP (8 + k0))).trans rfl, LK.out⟩
        have L1 := Lib.hid hL
        have HM := Lib.hid hm
        have HN := Lib.hid hN
        clear hL hm hN LK L
        have HVW := Lib.hid (lv_view L1.out (by have := HN.out; omega))
        go_wp2_with fail
        refine HVW.out.mono ?_
        rintro e W8 ⟨av, cv, rs1, rfl, hL, hsub, hg⟩
        have L2 := Lib.hid hL
        have HG := Lib.hid (hL.valG itC_len hg)
        have HGI := Lib.hid hg
        have HWO := Lib.hid (whole_view hL.inv)
        have HVN := Lib.hid (view_node hL.inv)
        have hvl0 := view_len hL.inv
        have hvl : ((viewP m).length : Int) ≤ 100000 := by have := HN.out; omega
        have HVL := Lib.hid (show (viewP m).length ≤ 100000 by have := HN.out; omega)
        have HPL := Lib.hid (show ∀ y ∈ viewP m, y.path.length ≤ 100000 from fun y hy => by
          have h1 := view_long hL.inv y hy
          have h2 := hL.inv.many
          have h3 := HM.out
          omega)
        have HDL := Lib.hid (show ∀ y ∈ viewP m, y.data.length ≤ 1000000 from fun y hy => view_data hL.inv y hy)
        clear hL hsub hg HVW L1 hvl0
        generalize hVV : viewP m = V at *
        clear hVV
        go_wp2_with fail
        go_loopw [11, 12] (fun zz jj ww => ∃ (j : Nat) (z : Int), j ≤ V.length ∧ zz = .int .i64 z ∧ jj = .int .i64 (j : Int) ∧ ww = W8 ∧ -1 ≤ z ∧ z < (m.nodes.length : Int)) (fun _ jj _ => V.length - (intOf jj).toNat)
        case atStart => exact ⟨0, -1, by omega, rfl, rfl, rfl, by omega, by omega⟩
        case round =>
          obtain ⟨j, z, hj, rfl, rfl, rfl, hz1, hz2⟩ := hrel
          by_cases hlt : j < V.length
          · obtain ⟨y, hy⟩ : ∃ y, V[j]? = some y := ⟨_, List.getElem?_eq_getElem hlt⟩
            obtain ⟨P, o, rfl, hP, _⟩ := HG.out.at (i := j) (xs := itC y) (by rw [List.getElem?_map, hy]; rfl)
            obtain ⟨c0, c1, c2, c3, c4, c5, c6⟩ := it_cells HG.out hy
            have HY := Lib.hid (HVN.out y (List.mem_of_getElem? hy))
            have i1 : (j : Int) < (V.length : Int) := by omega
            have i2 : (0 : Int) ≤ (j : Int) := by omega
            clear hy hlt c0 c2 c3 c4 c5 c6
            go_wp2_with fail
            go_roundw
            case rel => exact ⟨j + 1, _, by omega, rfl, by go_num, trivial, by have := HY.out; omega, by have := HY.out; omega⟩
            case measure => simp [intOf] <;> omega
          · obtain rfl : j = V.length := by omega
            have hnl : ¬ ((V.length : Int) < (V.length : Int)) := by omega
            have HU := Lib.hid (lv_usage L2.out (by have := HN.out; omega))
            have HNL : Hid ((m.nodes.length : Int) ≤ 8 + (k0 : Int)) := by have := L2.out.inv.many; have := HM.out; show _ ≤ _; omega
            rw [HM.out] at HU
            rw [show ((8 + k0 : Nat) : Int) - (m.nodes.length : Int) = 8 + (k0 : Int) - (m.nodes.length : Int) by omega] at HU
            have hnl2 := HNL.out
            have hnl3 : 8 + (k0 : Int) - (8 + (k0 : Int) - (m.nodes.length : Int)) = (m.nodes.length : Int) := by omega
            have hnl4 : z + 1 ≤ (m.nodes.length : Int) := by omega
            go_wp2_with fail
            refine HU.out.mono ?_
            rintro e W6 ⟨na, g, nc, lc, rs2, rfl, hL6, hsub6, hm⟩
            have L6 := Lib.hid (And.intro hL6 (And.intro hm (HGI.out.more hsub6)))
            clear hL6 hm HU hsub6
            have HR := Lib.hid (L6.out.1.alloc #[.int .i64 0, .int .i64 0, .string ⟨#[]⟩, .slice na 0 nc, .int .i64 0, .int .i64 0, .int .i64 0, .bool false, .slice (some ⟨g, 0, none⟩) 1 lc, .bool false] 33)
            go_upto_region 21 with fail
            have HV9 := Lib.hid (HR.out.valG itC_len (L6.out.2.2.more (RSub.cons _)))
            have HROW := Lib.hid (fun W (hb : Below (World.alloc W6 (.cells #[.int .i64 0, .int .i64 0, .string ⟨#[]⟩, .slice na 0 nc, .int .i64 0, .int .i64 0, .int .i64 0, .bool false, .slice (some ⟨g, 0, none⟩) 1 lc, .bool false] 33)).heap.size (World.alloc W6 (.cells #[.int .i64 0, .int .i64 0, .string ⟨#[]⟩, .slice na 0 nc, .int .i64 0, .int .i64 0, .int .i64 0, .bool false, .slice (some ⟨g, 0, none⟩) 1 lc, .bool false] 33)) W) => And.intro (((HR.out.under hb).row (List.mem_cons_self ..)).cell 8 (by simp)) (And.intro (((HR.out.under hb).row (List.mem_cons_of_mem _ L6.out.2.1)).cell 0 (by simp)) (HR.out.under hb).below))
            generalize World.alloc W6 _ = W7 at *
            generalize W6.heap.size = G7 at *
            clear L6 HR
            go_wp2_with fail
            refine (whole22 av cv V _ (by have := HVL.out; omega) HPL.out HDL.out HV9.out HWO.out).mono ?_
            rintro e W9 ⟨rfl, hb⟩
            obtain ⟨f8, g0, B9⟩ := HROW.out _ hb
            have B := Lib.hid B9
            clear hb B9 HROW HV9
            go_wp2_with fail
            refine (lives22 _).mono ?_
            rintro e W10 ⟨rfl, hb⟩
            have B9 := Lib.hid (B.out.trans (hb.mono B.out.size))
            clear hb f8 g0
            go_wp2_with fail
            go_ret
            exact ⟨rfl, B9.out⟩

/-! ### the frame (printed by mklaw.py) -/

set_option maxRecDepth 100000 in
theorem lifted_modelWhole (os : Os) (started : os.Started) (H : Type) (enc : TypeId × Value → H) :
    ReturnsInHanded {} Tryz.checked os 5 .any (fun w args => (Rows.modelWholeSpec.pre enc Tryz.prog Tryz.f5 Rows.modelWholeRow.domain false w args ∧ laidMetH Tryz.prog Rows.modelWholeRow.laid w) ∧ sizedMet enc Tryz.prog Tryz.f5 (OpenSpec.ofChange Rows.modelWholeSpec) false w args) (Rows.modelWholeSpec.post enc Tryz.prog Tryz.f5 false true false false) := by
  refine law_step_laid (C := Tryz.checked) (tb := 4) (by kernel_rfl) (by kernel_rfl) started (by kernel_rfl) Tryz.func5 rfl Tryz.underlying4 rfl ?_ ?_
    (ChangeSpec.witness_shaped (enc := enc) (C := Tryz.checked) (os := os) (X := fun w _ => laidMetH Tryz.prog Rows.modelWholeRow.laid w) false (World.laidAll Tryz.prog os Rows.modelWholeRow.laid) #[.int .u8 0, .slice none 0 0] 8 (World.laidAll_os _ _ _)
      (World.shaped_of_ZipB (by kernel_rfl) (by kernel_rfl)) (by kernel_rfl) (by kernel_rfl) (by kernel_rfl)
      (by rw [MakeChecks.laidMetH_plain _ _ _ (by kernel_rfl)]; exact laidMet_laidAll _ (by kernel_rfl) (by kernel_rfl))) ?_
  · intro ds hl
    match ds, hl with
    | [d0, d1], _ => rfl
  · intro t ht
    rw [show Tryz.f5.params.toList = [5, 22] from by rw [Tryz.params5]] at ht
    simp only [List.mem_cons, List.not_mem_nil, or_false] at ht
    rcases ht with rfl | rfl
    · exact ⟨by kernel_rfl, of_decide_eq_true (by kernel_rfl)⟩
    · exact ⟨by kernel_rfl, of_decide_eq_true (by kernel_rfl)⟩
  · intro W args hG
    rw [show Tryz.f5.params.toList = [5, 22] from by rw [Tryz.params5]] at hG
    obtain ⟨v0, v1, rfl, g0, g1⟩ := gotAll_args2 hG
    obtain ⟨a0, rfl, b0, c0⟩ := got_u8 Tryz.underlying5 g0
    obtain ⟨a1, cap1, l1, rfl, hle1, hcm1, hV1, hQ1⟩ := got_calls g1
    exact walk_modelWhole W a0 b0 c0 a1 cap1 l1 hle1 hcm1 hV1 hQ1

theorem modelWhole_over : Rows.modelWholeRow.holds Tryz.pinned (OpenSpec.ofChange Rows.modelWholeSpec) :=
  OpenClaim.holds_of_wide 5 Tryz.f5 rfl rfl rfl rfl rfl rfl rfl ⟨rfl, rfl, rfl, rfl, rfl⟩ rfl rfl rfl rfl rfl (by kernel_rfl) Tryz.func5 (by kernel_rfl)
    (of_decide_eq_true (by kernel_rfl)) (by unfold Func.isWrapper; first | (rw [if_pos (by decide +kernel)]; kernel_rfl) | (rw [if_neg (by decide +kernel)]; exact ⟨rfl, rfl⟩))
    (fun os started H enc _ => lifted_modelWhole os started H enc)

theorem modelWhole_holds : Rows.ModelWholeCardSaid :=
  Claim7.holds_tied_plain_at .later [] [.data, .pinned] true (true, "a2858bb3599f325511a5ea6afc3cb64a7205ceb57b21c251972803503bc7930f") true modelWhole_over (fun _ h => by cases h) (by kernel_rfl) (fun _ h => by cases h) modelWhole_row_tie rfl ⟨rfl, rfl⟩ (by kernel_rfl) rfl
    (fun f fn hf hfn => by
      obtain rfl : f = 5 := Option.some.inj ((show Tryz.prog.funcNamed "glissade/glissadelaw22.ModelWhole" = some 5 by kernel_rfl).symm.trans hf) |>.symm
      obtain rfl : fn = Tryz.f5 := (Option.some.inj (Tryz.func5.symm.trans hfn)).symm
      exact ⟨by kernel_rfl, fun j t ht => by
        rw [Tryz.params5] at ht
        have hm : t ∈ [5, 22] := by simpa using Array.mem_of_getElem? ht
        have hall : ([5, 22].all fun u => !Tryz.prog.wantsStandIn u) = true := by kernel_rfl
        exact (show Tryz.prog.wantsStandIn t = false by simpa using List.all_eq_true.1 hall t hm)⟩)
    (by kernel_rfl)
#print axioms modelWhole_holds

end Go.Proofs.YtppdihpobokfnaaGreatDoor
