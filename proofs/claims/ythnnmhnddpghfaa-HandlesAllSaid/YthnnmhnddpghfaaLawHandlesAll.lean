/- For every input the law glissadelaw21.HandlesAll returns true. -/
import Derived.BigQuiet
import Derived.Deep.QuietTactic
import Derived.Deep.RegionHeld3
import Derived.Test.YthnnmhnddpghfaaHanAlive
import Derived.Test.YthnnmhnddpghfaaPlainHan3
import Derived.Test.YthnnmhnddpghfaaFrame
set_option linter.unusedVariables false
set_option linter.unusedSimpArgs false
set_option maxRecDepth 100000
namespace Go.Proofs.Ythnnmhnddpghfaa
open Go.RowKit Go.Joins

set_option maxHeartbeats 16000000 in
theorem walk_handlesAll (w : World) (a : Option Addr) (cap : Nat) (l : List Ac) (hV : Val3 w a (l.map Ac.v)) (hk : ∀ z ∈ l, 0 ≤ z.k ∧ z.k ≤ 255) (n : Int) (f0 : -9223372036854775808 ≤ n) (f1 : n ≤ 9223372036854775807) :
    Calls Try.prog 5 #[.slice a l.length cap, .int .i64 n] w fun e w' => e = .returned (.bool true) ∧ Below w.heap.size w w' := by
  by_cases hc : l.length ≤ 100 ∧ 0 ≤ n
  case neg =>
    have hc2 : (100 : Int) < (l.length : Int) ∨ ((l.length : Int) ≤ 100 ∧ n < 0) := by omega
    clear hV hk hc
    rcases hc2 with h1 | ⟨h1, h2⟩
    all_goals
      go_enter Try.func5, Try.ntmps5
      go_wp2_with fail
      refine (lives21 _).mono ?_
      rintro e w1 ⟨rfl, hb⟩
      go_wp2_with fail
      go_ret
      exact ⟨rfl, hb⟩
  obtain ⟨hl, hn⟩ := hc
  have hl' : (l.length : Int) ≤ 100 := by omega
  have HV := Lib.hid hV
  have HK := Lib.hid hk
  have HC0 := Lib.hid (hnew w)
  clear hV hk
  go_enter Try.func5, Try.ntmps5
  go_wp2_with fail
  refine HC0.out.mono ?_
  rintro e w0 ⟨rfl, hT0, B0⟩
  clear HC0
  obtain ⟨Kt, hKt⟩ : ∃ Kt, Kt = w.heap.size := ⟨_, rfl⟩
  rw [← hKt] at hT0
  rw [show (⟨w.heap.size, 0, none⟩ : Addr) = ⟨Kt, 0, none⟩ from by rw [hKt]]
  have HKt := Lib.hid hKt
  clear hKt
  go_wp2_with fail
  go_loopw [6] (fun jj wr => ∃ k : Nat, k ≤ l.length ∧ jj = .int .i64 k ∧ TabAt wr Kt true (playT zeroT (l.take k)) ∧ Below w.heap.size w wr) (fun jj _ => l.length - (intOf jj).toNat)
  case atStart => exact ⟨0, by omega, rfl, hT0, B0⟩
  case round =>
    obtain ⟨k, hk, rfl, hT, B⟩ := hrel
    by_cases hlt : k < l.length
    · obtain ⟨x, hx⟩ : ∃ x, l[k]? = some x := ⟨_, List.getElem?_eq_getElem hlt⟩
      obtain ⟨P, o, rfl, hP, c0, c1, c2⟩ := act_cells (HV.out.below B (Nat.le_refl _)) hx
      have hkk := HK.out x (List.mem_of_getElem? hx)
      have HD := Lib.hid (hdoes Kt _ x.k x.fd x.n wr hT hkk.1 hkk.2)
      have HS := Lib.hid (playT_snoc (T := zeroT) hx)
      have h1 : (k : Int) < (l.length : Int) := by omega
      clear hT hx hkk
      go_wp2_with fail
      refine HD.out.mono ?_
      rintro e w1 ⟨⟨z, rfl⟩, hT1, hg⟩
      have B1 := grown_below4 B hg (fun j hj => by injection hj with hj; have := HKt.out; omega) B.size
      have HT1 : Hid (TabAt w1 Kt true (playT zeroT (l.take (k + 1)))) := by
        show TabAt _ _ _ _
        rw [HS.out]; exact hT1
      clear hT1 hg HD HS
      go_wp2_with fail
      go_roundw
      case rel => exact ⟨k + 1, by omega, by go_num, HT1.out, B1⟩
      case measure => simp [intOf]; omega
    · obtain rfl : k = l.length := by omega
      rw [List.take_length] at hT
      have hnl6 : ¬ ((l.length : Int) < (l.length : Int)) := by omega
      generalize playT zeroT l = T at hT
      obtain ⟨S, hS⟩ : ∃ S, S = wr.heap.size := ⟨_, rfl⟩
      have HS : Hid (Kt ≠ S ∧ w.heap.size ≤ S) := by
        have h1 := hT.lt
        have h2 := B.size
        exact ⟨by omega, by omega⟩
      have B1 := B.alloc B.size (.cells #[.bool false, .bool false, .bool false, .bool false, .bool false, .bool false, .bool false, .bool false, .bool false, .bool false, .bool false, .bool false, .bool false, .bool false, .bool false, .bool false] 47)
      have hR1 := rowAt_alloc wr #[.bool false, .bool false, .bool false, .bool false, .bool false, .bool false, .bool false, .bool false, .bool false, .bool false, .bool false, .bool false, .bool false, .bool false, .bool false, .bool false] 47
      have HT1 := Lib.hid (hT.below ((Below.refl _ _).alloc (Nat.le_refl _) (.cells #[.bool false, .bool false, .bool false, .bool false, .bool false, .bool false, .bool false, .bool false, .bool false, .bool false, .bool false, .bool false, .bool false, .bool false, .bool false, .bool false] 47)) (Nat.le_refl _))
      rw [← hS] at hR1
      have HR1 := Lib.hid hR1
      clear hT hR1 B HV HK
      go_wp2_with fail
      rw [show (⟨wr.heap.size, 0, none⟩ : Addr) = ⟨S, 0, none⟩ from by rw [hS]]
      clear hS
      go_loopw [8] (fun jj W => ∃ (k : Nat) (bs : List Bool), k ≤ 16 ∧ jj = .int .i64 k ∧ TabAt W Kt true T ∧ RowAt W S (bs.map Value.bool) ∧ Seen T bs k ∧ Below w.heap.size w W) (fun jj _ => 16 - (intOf jj).toNat)
      case atStart => exact ⟨0, List.replicate 16 false, by omega, rfl, HT1.out, HR1.out, ⟨by simp, fun j hj => by omega⟩, B1⟩
      case round =>
        obtain ⟨k, bs, hk, rfl, hT, hR, hs, B⟩ := hrel
        by_cases hlt : k < 16
        · have h1 : (k : Int) < 16 := by omega
          obtain ⟨s, hx⟩ : ∃ s, T[k]? = some s := ⟨_, List.getElem?_eq_getElem (by rw [hT.1]; exact hlt)⟩
          have HX := Lib.hid (And.intro hx (seen_step hs hx hlt))
          have hl2 := hs.1
          have HT := Lib.hid hT
          have HR := Lib.hid hR
          clear hT hR hs hx HT1 HR1 B1
          go_wp2_with fail
          refine (hget Kt T k _ HT.out).mono ?_
          rintro e w2 ⟨rfl, hb⟩
          have hR2 := HR.out.below hb HR.out.lt
          have hT2 := HT.out.below hb (Nat.le_refl _)
          have HE := Lib.hid (tGet_ok hlt HX.out.1)
          have hc2 := hR2.cell k (by simp; omega)
          rw [List.getElem?_map, List.getElem?_eq_getElem (show k < bs.length from by omega), Option.map_some] at hc2
          have hf2 := hR2.frozen k (by simp; omega)
          have hS2 := hR2.lt
          have HB2 : Hid (RowAt (w2.setCell ⟨S, k, none⟩ (.bool s.o)) S ((bs.set k s.o).map Value.bool) ∧ TabAt (w2.setCell ⟨S, k, none⟩ (.bool s.o)) Kt true T ∧ Below w.heap.size w (w2.setCell ⟨S, k, none⟩ (.bool s.o))) := by
            refine ⟨?_, ⟨hT2.1, hT2.2.other _ _ (by exact HS.out.1)⟩, (below_chain B hb B.size).setCell (by exact HS.out.2) _⟩
            rw [List.map_set]; exact hR2.set k (.bool s.o)
          rw [← HE.out] at HB2
          clear hR2 hT2 hb B HT HR
          go_wp2_with fail
          go_roundw
          case rel => exact ⟨k + 1, _, by omega, by go_num, HB2.out.2.1, HB2.out.1, by rw [HE.out]; exact HX.out.2, HB2.out.2.2⟩
          case measure => simp [intOf]; omega
        · obtain rfl : k = 16 := by omega
          rw [seen_end hT.1 hs] at hR
          have HT2 := Lib.hid hT
          have HR2 := Lib.hid hR
          have B2 := B
          clear hT hR hs B HT1 HR1 B1
          go_wp2_with fail
          go_loopw [12] (fun _ W => ∃ T' : List Sl, TabAt W Kt true T' ∧ RowAt W S ((openL T').map Value.bool) ∧ Below w.heap.size w W) (fun _ W => freeW W Kt)
          case atStart => exact ⟨T, HT2.out, HR2.out, B2⟩
          case round =>
            obtain ⟨T', hT, hR, B⟩ := hrel
            have HO := Lib.hid (hopen Kt T' n _ hT)
            have hT16 := hT.1
            have hfr := freeW_eq hT
            have hSlt := hR.lt
            cases hf : firstFree T' with
            | some k =>
              have hto : tOpen T' n = (T'.set k ⟨true, n, 0⟩, (k : Int), 0) := by rw [tOpen, if_neg (by omega), hf]
              rw [hto] at HO
              obtain ⟨hk16, ⟨s, hs, ho⟩, _⟩ := free_some hf
              rw [hT16] at hk16
              have HF := Lib.hid (free_less (n := n) hf)
              have HR := Lib.hid hR
              have hc0 := openL_get hs
              rw [ho] at hc0
              have HC := Lib.hid hc0
              have HFR := Lib.hid hfr
              clear hT hR hf hto hs ho hc0 hfr HT2 HR2 B2 s
              have k1 : (k : Int) < 16 := by omega
              have k0 : (0 : Int) ≤ (k : Int) := by omega
              go_wp2_with fail
              refine HO.out.mono ?_
              rintro e w3 ⟨rfl, hT3, hg3⟩
              have hR3 := HR.out.grown hg3 (fun q => HS.out.1 (by injection q))
              have B3 := grown_below4 B hg3 (fun j hj => by injection hj with hj; have := HKt.out; omega) B.size
              have hlen3 : ((openL T').map Value.bool).length = 16 := by simp [openL, hT16]
              have hc3 := hR3.cell k (by rw [hlen3]; omega)
              rw [HC.out] at hc3
              have hf3 := hR3.frozen k (by rw [hlen3]; omega)
              have hS3 := hR3.lt
              have HB3 : Hid (RowAt (w3.setCell ⟨S, k, none⟩ (.bool true)) S ((openL (T'.set k ⟨true, n, 0⟩)).map Value.bool) ∧ TabAt (w3.setCell ⟨S, k, none⟩ (.bool true)) Kt true (T'.set k ⟨true, n, 0⟩) ∧ Below w.heap.size w (w3.setCell ⟨S, k, none⟩ (.bool true))) := by
                refine ⟨?_, ⟨hT3.1, hT3.2.other _ _ (by exact HS.out.1)⟩, B3.setCell (by exact HS.out.2) _⟩
                rw [← openL_set, List.map_set]; exact hR3.set k (.bool true)
              clear hT3 hR3 hg3 B3 HO HR HC B
              go_wp2_with fail
              go_roundw
              case rel =>
                repeat apply Exists.intro
                exact ⟨⟨_, HB3.out.2.1, HB3.out.1, HB3.out.2.2⟩, rfl⟩
              case measure =>
                have e1 := freeW_eq HB3.out.2.1
                have e2 := HFR.out
                have e3 := HF.out
                omega
            | none =>
              have hto : tOpen T' n = (T', 0, 221) := by rw [tOpen, if_neg (by omega), hf]
              rw [hto] at HO
              have HF := Lib.hid (And.intro (full_yes hT16 hf) (And.intro (openL_all hT16 hf) (closing_start hT16 hf)))
              have HR := Lib.hid hR
              clear hT hR hf hto hfr HT2 HR2 B2
              go_wp2_with fail
              refine HO.out.mono ?_
              rintro e w3 ⟨rfl, hT3, hg3⟩
              have hR3 := HR.out.grown hg3 (fun q => HS.out.1 (by injection q))
              have B3 := grown_below4 B hg3 (fun j hj => by injection hj with hj; have := HKt.out; omega) B.size
              have HFu := hfull Kt T' _ hT3
              rw [HF.out.1] at HFu
              rw [HF.out.2.1] at hR3
              have HT3 := Lib.hid hT3
              have HR3 := Lib.hid hR3
              have HFU := Lib.hid HFu
              clear hT3 hR3 hg3 HO HR B HFu
              go_wp2_with fail
              refine HFU.out.mono ?_
              rintro e w4 ⟨rfl, hb4⟩
              have B4 := below_chain B3 hb4 B3.size
              have HT4 := Lib.hid (HT3.out.below hb4 (Nat.le_refl _))
              have HR4 := Lib.hid (HR3.out.below hb4 HR3.out.lt)
              clear hb4 B3 HT3 HR3 HFU
              go_wp2_with fail
              go_loopw [14] (fun jj W => ∃ (k : Nat) (T2 : List Sl), k ≤ 16 ∧ jj = .int .i64 k ∧ TabAt W Kt true T2 ∧ Closing T2 k ∧ RowAt W S ((List.replicate 16 true).map Value.bool) ∧ Below w.heap.size w W) (fun jj _ => 16 - (intOf jj).toNat)
              case atStart => exact ⟨0, T', by omega, rfl, HT4.out, HF.out.2.2, HR4.out, B4⟩
              case round =>
                obtain ⟨k, T2, hk, rfl, hT, hC, hR, B⟩ := hrel
                by_cases hlt : k < 16
                · have h1 : (k : Int) < 16 := by omega
                  obtain ⟨⟨n5, b5, h5⟩, hC5⟩ := closing_step hC hlt
                  have HC := hclose Kt T2 k _ hT
                  rw [h5] at HC
                  have HC5 := Lib.hid hC5
                  have HCl := Lib.hid HC
                  have HR := Lib.hid hR
                  clear hT hC hR h5 hC5 HC HT4 HR4 B4
                  go_wp2_with fail
                  refine HCl.out.mono ?_
                  rintro e w5 ⟨rfl, hT5, hg5⟩
                  have hR5 := HR.out.grown hg5 (fun q => HS.out.1 (by injection q))
                  have B5 := grown_below4 B hg5 (fun j hj => by injection hj with hj; have := HKt.out; omega) B.size
                  have hc5 := hR5.cell k (by simp; omega)
                  rw [List.map_replicate, List.getElem?_replicate_of_lt hlt] at hc5
                  have hS5 := hR5.lt
                  have HT5 := Lib.hid hT5
                  have HR5 := Lib.hid hR5
                  clear hT5 hR5 hg5 HCl HR B
                  go_wp2_with fail
                  go_roundw
                  case rel => exact ⟨k + 1, _, by omega, by go_num, HT5.out, HC5.out, HR5.out, B5⟩
                  case measure => simp [intOf]; omega
                · obtain rfl : k = 16 := by omega
                  rw [closing_end hC] at hT
                  have HT5 := Lib.hid hT
                  clear hT hC hR HT4 HR4 B4
                  go_wp2_with fail
                  refine (hnodes Kt zeroT _ HT5.out).mono ?_
                  rintro e w6 ⟨a6, cap6, rfl, _, hb6⟩
                  rw [zero_nodes]
                  have B6 := below_chain B hb6 B.size
                  have HT6 := Lib.hid (HT5.out.below hb6 (Nat.le_refl _))
                  have HFu := hfull Kt zeroT _ HT6.out
                  rw [zero_full] at HFu
                  have HFU := Lib.hid HFu
                  clear hb6 HT5 B HFu
                  go_wp2_with fail
                  refine HFU.out.mono ?_
                  rintro e w7 ⟨rfl, hb7⟩
                  have B7 := below_chain B6 hb7 B6.size
                  have HT7 := Lib.hid (HT6.out.below hb7 (Nat.le_refl _))
                  have HHa := hhas Kt zeroT n _ HT7.out
                  rw [zero_has] at HHa
                  have HHA := Lib.hid HHa
                  clear hb7 HT6 B6 HFU HHa
                  go_wp2_with fail
                  refine HHA.out.mono ?_
                  rintro e w8 ⟨rfl, hb8⟩
                  have B8 := below_chain B7 hb8 B7.size
                  clear hb8 HT7 B7 HHA
                  go_wp2_with fail
                  refine (lives21 _).mono ?_
                  rintro e w9 ⟨rfl, hb9⟩
                  have B9 := below_chain B8 hb9 B8.size
                  go_wp2_with fail
                  go_ret
                  exact ⟨rfl, B9⟩

/-! ### the frame (printed by mklaw.py) -/

set_option maxRecDepth 100000 in
theorem lifted_handlesAll (os : Os) (started : os.Started) (H : Type) (enc : TypeId × Value → H) :
    ReturnsInHanded {} Try.checked os 5 .any (Rows.handlesAllSpec.pre6 enc Try.prog Try.f5 Rows.handlesAllRow.domain false) (Rows.handlesAllSpec.post enc Try.prog Try.f5 false true false false) := by
  refine law_step (C := Try.checked) (tb := 4) (by kernel_rfl) (by kernel_rfl) started (by kernel_rfl) Try.func5 rfl Try.underlying4 rfl ?_ ?_
    (ChangeSpec.witness6 (enc := enc) (C := Try.checked) false ⟨#[], #[.slice none 0 0, .int .i64 0], []⟩ 8 (by kernel_rfl) (by kernel_rfl) (by kernel_rfl) (by kernel_rfl)) ?_
  · intro ds hl
    match ds, hl with
    | [d0, d1], _ => rfl
  · intro t ht
    rw [show Try.f5.params.toList = [22, 3] from by rw [Try.params5]] at ht
    simp only [List.mem_cons, List.not_mem_nil, or_false] at ht
    rcases ht with rfl | rfl
    · exact ⟨by kernel_rfl, of_decide_eq_true (by kernel_rfl)⟩
    · exact ⟨by kernel_rfl, of_decide_eq_true (by kernel_rfl)⟩
  · intro W args hG
    rw [show Try.f5.params.toList = [22, 3] from by rw [Try.params5]] at hG
    obtain ⟨v0, v1, rfl, g0, g1⟩ := gotAll_args2 hG
    obtain ⟨a0, cap0, l0, rfl, hV0, hk0⟩ := got_acts g0
    obtain ⟨a1, rfl, b1, c1⟩ := got_i64 Try.underlying3 g1
    exact walk_handlesAll W a0 cap0 l0 hV0 hk0 a1 b1 c1

theorem handlesAll_over : Rows.handlesAllRow.holds Try.pinned (OpenSpec.ofChange Rows.handlesAllSpec) :=
  OpenClaim.holds_of_wide 5 Try.f5 rfl rfl rfl rfl rfl rfl rfl ⟨rfl, rfl, rfl, rfl, rfl⟩ rfl rfl rfl rfl rfl (by kernel_rfl) Try.func5 (by kernel_rfl)
    (of_decide_eq_true (by kernel_rfl)) (by unfold Func.isWrapper; first | (rw [if_pos (by decide +kernel)]; kernel_rfl) | (rw [if_neg (by decide +kernel)]; exact ⟨rfl, rfl⟩))
    (fun os started H enc _ => lifted_handlesAll os started H enc)

theorem handlesAll_holds : Rows.HandlesAllSaid := handlesAll_over
#print axioms handlesAll_holds

end Go.Proofs.Ythnnmhnddpghfaa
