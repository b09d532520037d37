/- For every input the law glissadelaw21.HandlesTwo returns true. -/
import Derived.BigQuiet
import Derived.Deep.QuietTactic
import Derived.Deep.RegionHeld3
import Derived.Test.YthnnmhnddpghfaaHanAlive
import Derived.Test.YthnnmhnddpghfaaHanTwo
import Derived.Test.YthnnmhnddpghfaaHanClone
import Derived.Test.YthnnmhnddpghfaaSameInts21
import Derived.Test.YthnnmhnddpghfaaFrame
set_option linter.unusedVariables false
set_option linter.unusedSimpArgs false
set_option maxRecDepth 100000
namespace Go.Proofs.Ythnnmhnddpghfaa
open Go.RowKit Go.Joins

set_option maxHeartbeats 16000000 in
theorem walk_handlesTwo (w : World) (a : Option Addr) (cap : Nat) (l : List Ac) (hV : Val3 w a (l.map Ac.v)) (hk : ∀ z ∈ l, 0 ≤ z.k ∧ z.k ≤ 255) (b : Option Addr) (cap' : Nat) (m : List Ac) (hV' : Val3 w b (m.map Ac.v)) (hk' : ∀ z ∈ m, 0 ≤ z.k ∧ z.k ≤ 255) :
    Calls Try.prog 6 #[.slice a l.length cap, .slice b m.length cap'] w fun e w' => e = .returned (.bool true) ∧ Below w.heap.size w w' := by
  by_cases hc : l.length ≤ 100 ∧ m.length ≤ 100
  case neg =>
    have hc2 : (100 : Int) < (l.length : Int) ∨ ((l.length : Int) ≤ 100 ∧ (100 : Int) < (m.length : Int)) := by omega
    clear hV hV' hk hk' hc
    rcases hc2 with h1 | ⟨h1, h2⟩
    all_goals
      go_enter Try.func6, Try.ntmps6
      go_wp2_with fail
      refine (lives21 _).mono ?_
      rintro e w1 ⟨rfl, hb⟩
      go_wp2_with fail
      go_ret
      exact ⟨rfl, hb⟩
  obtain ⟨hl, hm⟩ := hc
  have hl' : (l.length : Int) ≤ 100 := by omega
  have hm' : (m.length : Int) ≤ 100 := by omega
  have HV := Lib.hid hV
  have HV2 := Lib.hid hV'
  have HK := Lib.hid hk
  have HK2 := Lib.hid hk'
  have HC0 := Lib.hid (hnew w)
  clear hV hV' hk hk'
  go_enter Try.func6, Try.ntmps6
  go_wp2_with fail
  refine HC0.out.mono ?_
  rintro e w0 ⟨rfl, hT0, B0⟩
  clear HC0
  obtain ⟨Kt, hKt⟩ : ∃ Kt, Kt = w.heap.size := ⟨_, rfl⟩
  rw [← hKt] at hT0
  rw [show (⟨w.heap.size, 0, none⟩ : Addr) = ⟨Kt, 0, none⟩ from by rw [hKt]]
  have HKt := Lib.hid hKt
  clear hKt
  go_wp2_with fail
  go_loopw [6] (fun jj wr => ∃ k : Nat, k ≤ l.length ∧ jj = .int .i64 k ∧ TabAt wr Kt true (playT zeroT (l.take k)) ∧ Below w.heap.size w wr) (fun jj _ => l.length - (intOf jj).toNat)
  case atStart => exact ⟨0, by omega, rfl, hT0, B0⟩
  case round =>
    obtain ⟨k, hk, rfl, hT, B⟩ := hrel
    by_cases hlt : k < l.length
    · obtain ⟨x, hx⟩ : ∃ x, l[k]? = some x := ⟨_, List.getElem?_eq_getElem hlt⟩
      obtain ⟨P, o, rfl, hP, c0, c1, c2⟩ := act_cells (HV.out.below B (Nat.le_refl _)) hx
      have hkk := HK.out x (List.mem_of_getElem? hx)
      have HD := Lib.hid (hdoes Kt _ x.k x.fd x.n wr hT hkk.1 hkk.2)
      have HS := Lib.hid (playT_snoc (T := zeroT) hx)
      have h1 : (k : Int) < (l.length : Int) := by omega
      clear hT hx hkk
      go_wp2_with fail
      refine HD.out.mono ?_
      rintro e w1 ⟨⟨z, rfl⟩, hT1, hg⟩
      have B1 := grown_below4 B hg (fun j hj => by injection hj with hj; have := HKt.out; omega) B.size
      have HT1 : Hid (TabAt w1 Kt true (playT zeroT (l.take (k + 1)))) := by
        show TabAt _ _ _ _
        rw [HS.out]; exact hT1
      clear hT1 hg HD HS
      go_wp2_with fail
      go_roundw
      case rel => exact ⟨k + 1, by omega, by go_num, HT1.out, B1⟩
      case measure => simp [intOf]; omega
    · obtain rfl : k = l.length := by omega
      rw [List.take_length] at hT
      have hnl6 : ¬ ((l.length : Int) < (l.length : Int)) := by omega
      obtain ⟨T, hTe⟩ : ∃ T, T = playT zeroT l := ⟨_, rfl⟩
      rw [← hTe] at hT
      have HTe := Lib.hid hTe
      have HT := Lib.hid hT
      clear hTe hT
      go_wp2_with fail
      refine (hclone Kt T wr HT.out).mono ?_
      rintro e w1 ⟨rfl, hTc, hb1⟩
      obtain ⟨Kc, hKc⟩ : ∃ Kc, Kc = wr.heap.size := ⟨_, rfl⟩
      have HKc : Hid (w.heap.size ≤ Kc ∧ Kt < Kc) := by
        have h1 := B.size
        have h2 := HT.out.lt
        exact ⟨by omega, by omega⟩
      have B1 := below_chain B hb1 B.size
      have HT1 := Lib.hid (HT.out.below hb1 (Nat.le_refl _))
      rw [← hKc] at hTc
      rw [show (⟨wr.heap.size, 0, none⟩ : Addr) = ⟨Kc, 0, none⟩ from by rw [hKc]]
      have HC1 := Lib.hid hTc
      clear hTc hb1 B HT hKc
      go_wp2_with fail
      refine (hnodes Kt T w1 HT1.out).mono ?_
      rintro e w2 ⟨a2, cap2, rfl, hn2, hb2⟩
      have B2 := below_chain B1 hb2 B1.size
      have HT2 := Lib.hid (HT1.out.below hb2 (Nat.le_refl _))
      have HC2 := Lib.hid (HC1.out.below hb2 (Nat.le_refl _))
      have HN2 : Hid (∃ base, Kc < base ∧ NewS w2 base a2 ((nodesOf T).map (Value.int .i64))) := ⟨_, HC1.out.lt, hn2⟩
      clear hb2 hn2 HT1 HC1 B1
      go_wp2_with fail
      go_loopw [9] (fun jj wr => ∃ k : Nat, k ≤ m.length ∧ jj = .int .i64 k ∧ TabAt wr Kc true (playT T (m.take k)) ∧ Below w.heap.size w wr ∧ TabAt wr Kt true T ∧ ∃ base, Kc < base ∧ NewS wr base a2 ((nodesOf T).map (Value.int .i64))) (fun jj _ => m.length - (intOf jj).toNat)
      case atStart => exact ⟨0, by omega, rfl, HC2.out, B2, HT2.out, HN2.out⟩
      case round =>
        obtain ⟨k, hk, rfl, hT, B, hTt, base, hbs, hN⟩ := hrel
        by_cases hlt : k < m.length
        · obtain ⟨x, hx⟩ : ∃ x, m[k]? = some x := ⟨_, List.getElem?_eq_getElem hlt⟩
          obtain ⟨P, o, rfl, hP, c0, c1, c2⟩ := act_cells (HV2.out.below B (Nat.le_refl _)) hx
          have hkk := HK2.out x (List.mem_of_getElem? hx)
          have HD := Lib.hid (hdoes Kc _ x.k x.fd x.n wr hT hkk.1 hkk.2)
          have HS := Lib.hid (playT_snoc (T := T) hx)
          have h1 : (k : Int) < (m.length : Int) := by omega
          clear hT hx hkk
          go_wp2_with fail
          refine HD.out.mono ?_
          rintro e w1 ⟨⟨z, rfl⟩, hT1, hg⟩
          have B1 := grown_below4 B hg (fun j hj => by injection hj with hj; have := HKt.out; have := HKc.out; omega) B.size
          have HT1 : Hid (TabAt w1 Kc true (playT T (m.take (k + 1)))) := by
            show TabAt _ _ _ _
            rw [HS.out]; exact hT1
          have HTt := Lib.hid (hTt.grown hg (by have := HKc.out; omega))
          have HN := Lib.hid (hN.grown hg hbs)
          clear hTt hN
          clear hT1 hg HD HS
          go_wp2_with fail
          go_roundw
          case rel => exact ⟨k + 1, by omega, by go_num, HT1.out, B1, HTt.out, base, hbs, HN.out⟩
          case measure => simp [intOf]; omega
        · obtain rfl : k = m.length := by omega
          rw [List.take_length] at hT
          have hnl9 : ¬ ((m.length : Int) < (m.length : Int)) := by omega
          obtain ⟨T2, hTe2⟩ : ∃ T2, T2 = playT T m := ⟨_, rfl⟩
          rw [← hTe2] at hT
          have HTe2 := Lib.hid hTe2
          have HC3 := Lib.hid hT
          have HT3 := Lib.hid hTt
          have HN3 := Lib.hid hN
          clear hTe2 hT hTt hN HN2 HT2 HC2 B2
          go_wp2_with fail
          refine (hnodes Kt T _ HT3.out).mono ?_
          rintro e w4 ⟨a4, cap4, rfl, hn4, hb4⟩
          have B4 := below_chain B hb4 B.size
          have HC4 := Lib.hid (HC3.out.below hb4 (Nat.le_refl _))
          have hN4 := HN3.out.below hb4 (Nat.le_refl _)
          have HS4 := Lib.hid (sameints_eq a4 a2 cap4 cap2 (nodesOf T) (nodesOf T) w4 (by have := Lib.compact_length_le ((openN T 16).mergeSort fun x y => decide (x ≤ y)); have h2 := openN_len T 16; rw [List.length_mergeSort] at this; show (nodesOf T).length ≤ _; rw [nodesOf]; omega) hn4.vals hN4.vals)
          have ht4 : decide (nodesOf T = nodesOf T) = true := decide_eq_true rfl
          rw [ht4] at HS4
          clear hb4 hn4 hN4 HC3 HT3 HN3 B ht4
          go_wp2_with fail
          refine HS4.out.mono ?_
          rintro e w5 ⟨rfl, hb5⟩
          have B5 := below_chain B4 hb5 B4.size
          have HC5 := Lib.hid (HC4.out.below hb5 (Nat.le_refl _))
          clear hb5 HS4 HC4 B4
          go_wp2_with fail
          refine (hnew _).mono ?_
          rintro e w6 ⟨rfl, hT6, hb6⟩
          have B6 := below_chain B5 hb6 B5.size
          obtain ⟨Ku, hKu⟩ : ∃ Ku, Ku = w5.heap.size := ⟨_, rfl⟩
          have HKu : Hid (w.heap.size ≤ Ku ∧ Kc < Ku) := by
            have h1 := B5.size
            have h2 := HC5.out.lt
            exact ⟨by omega, by omega⟩
          rw [← hKu] at hT6
          rw [show (⟨w5.heap.size, 0, none⟩ : Addr) = ⟨Ku, 0, none⟩ from by rw [hKu]]
          have HC6 := Lib.hid (HC5.out.below hb6 (Nat.le_refl _))
          have HU6 := Lib.hid hT6
          clear hT6 hb6 HC5 B5 hKu
          go_wp2_with fail
          go_loopw [11] (fun jj wr => ∃ k : Nat, k ≤ l.length ∧ jj = .int .i64 k ∧ TabAt wr Ku true (playT zeroT (l.take k)) ∧ Below w.heap.size w wr ∧ TabAt wr Kc true T2) (fun jj _ => l.length - (intOf jj).toNat)
          case atStart => exact ⟨0, by omega, rfl, HU6.out, B6, HC6.out⟩
          case round =>
            obtain ⟨k, hk, rfl, hT, B, hTc⟩ := hrel
            by_cases hlt : k < l.length
            · obtain ⟨x, hx⟩ : ∃ x, l[k]? = some x := ⟨_, List.getElem?_eq_getElem hlt⟩
              obtain ⟨P, o, rfl, hP, c0, c1, c2⟩ := act_cells (HV.out.below B (Nat.le_refl _)) hx
              have hkk := HK.out x (List.mem_of_getElem? hx)
              have HD := Lib.hid (hdoes Ku _ x.k x.fd x.n wr hT hkk.1 hkk.2)
              have HS := Lib.hid (playT_snoc (T := zeroT) hx)
              have h1 : (k : Int) < (l.length : Int) := by omega
              clear hT hx hkk
              go_wp2_with fail
              refine HD.out.mono ?_
              rintro e w1 ⟨⟨z, rfl⟩, hT1, hg⟩
              have B1 := grown_below4 B hg (fun j hj => by injection hj with hj; have := HKt.out; have := HKu.out; omega) B.size
              have HT1 : Hid (TabAt w1 Ku true (playT zeroT (l.take (k + 1)))) := by
                show TabAt _ _ _ _
                rw [HS.out]; exact hT1
              have HTc := Lib.hid (hTc.grown hg (by have := HKu.out; omega))
              clear hTc
              clear hT1 hg HD HS
              go_wp2_with fail
              go_roundw
              case rel => exact ⟨k + 1, by omega, by go_num, HT1.out, B1, HTc.out⟩
              case measure => simp [intOf]; omega
            · obtain rfl : k = l.length := by omega
              rw [List.take_length] at hT
              have hnl11 : ¬ ((l.length : Int) < (l.length : Int)) := by omega
              rw [← HTe.out] at hT
              have HU7 := Lib.hid hT
              have HC7 := Lib.hid hTc
              have B7 := B
              clear hT hTc HU6 HC6 B6 B
              go_wp2_with fail
              go_loopw [12] (fun jj wr => ∃ k : Nat, k ≤ m.length ∧ jj = .int .i64 k ∧ TabAt wr Ku true (playT T (m.take k)) ∧ Below w.heap.size w wr ∧ TabAt wr Kc true T2) (fun jj _ => m.length - (intOf jj).toNat)
              case atStart => exact ⟨0, by omega, rfl, HU7.out, B7, HC7.out⟩
              case round =>
                obtain ⟨k, hk, rfl, hT, B, hTc⟩ := hrel
                by_cases hlt : k < m.length
                · obtain ⟨x, hx⟩ : ∃ x, m[k]? = some x := ⟨_, List.getElem?_eq_getElem hlt⟩
                  obtain ⟨P, o, rfl, hP, c0, c1, c2⟩ := act_cells (HV2.out.below B (Nat.le_refl _)) hx
                  have hkk := HK2.out x (List.mem_of_getElem? hx)
                  have HD := Lib.hid (hdoes Ku _ x.k x.fd x.n wr hT hkk.1 hkk.2)
                  have HS := Lib.hid (playT_snoc (T := T) hx)
                  have h1 : (k : Int) < (m.length : Int) := by omega
                  clear hT hx hkk
                  go_wp2_with fail
                  refine HD.out.mono ?_
                  rintro e w1 ⟨⟨z, rfl⟩, hT1, hg⟩
                  have B1 := grown_below4 B hg (fun j hj => by injection hj with hj; have := HKt.out; have := HKu.out; omega) B.size
                  have HT1 : Hid (TabAt w1 Ku true (playT T (m.take (k + 1)))) := by
                    show TabAt _ _ _ _
                    rw [HS.out]; exact hT1
                  have HTc := Lib.hid (hTc.grown hg (by have := HKu.out; omega))
                  clear hTc
                  clear hT1 hg HD HS
                  go_wp2_with fail
                  go_roundw
                  case rel => exact ⟨k + 1, by omega, by go_num, HT1.out, B1, HTc.out⟩
                  case measure => simp [intOf]; omega
                · obtain rfl : k = m.length := by omega
                  rw [List.take_length] at hT
                  have hnl12 : ¬ ((m.length : Int) < (m.length : Int)) := by omega
                  rw [← HTe2.out] at hT
                  have HU8 := Lib.hid hT
                  have HC8 := Lib.hid hTc
                  have B8 := B
                  clear hT hTc HU7 HC7 B7 B HV HV2 HK HK2
                  go_wp2_with fail
                  go_loopw [13] (fun jj wr => ∃ k : Nat, k ≤ 16 ∧ jj = .int .i64 k ∧ TabAt wr Ku true T2 ∧ TabAt wr Kc true T2 ∧ Below w.heap.size w wr) (fun jj _ => 16 - (intOf jj).toNat)
                  case atStart => exact ⟨0, by omega, rfl, HU8.out, HC8.out, B8⟩
                  case round =>
                    obtain ⟨k, hk, rfl, hU, hC, B⟩ := hrel
                    by_cases hlt : k < 16
                    · have h1 : (k : Int) < 16 := by omega
                      have HU := Lib.hid hU
                      have HC := Lib.hid hC
                      clear hU hC
                      go_wp2_with fail
                      refine (hget Kc T2 k _ HC.out).mono ?_
                      rintro e w9 ⟨rfl, hb9⟩
                      have B9 := below_chain B hb9 B.size
                      have HU9 := Lib.hid (HU.out.below hb9 (Nat.le_refl _))
                      have HC9 := Lib.hid (HC.out.below hb9 (Nat.le_refl _))
                      clear hb9 HU HC B
                      go_wp2_with fail
                      refine (hget Ku T2 k _ HU9.out).mono ?_
                      rintro e w10 ⟨rfl, hb10⟩
                      have B10 := below_chain B9 hb10 B9.size
                      have HU10 := Lib.hid (HU9.out.below hb10 (Nat.le_refl _))
                      have HC10 := Lib.hid (HC9.out.below hb10 (Nat.le_refl _))
                      clear hb10 HU9 HC9 B9
                      go_wp2_with fail
                      go_roundw
                      case rel => exact ⟨k + 1, by omega, by go_num, HU10.out, HC10.out, B10⟩
                      case measure => simp [intOf]; omega
                    · obtain rfl : k = 16 := by omega
                      clear hU hC HU8 HC8 B8
                      go_wp2_with fail
                      refine (lives21 _).mono ?_
                      rintro e w11 ⟨rfl, hb11⟩
                      have B11 := below_chain B hb11 B.size
                      go_wp2_with fail
                      go_ret
                      exact ⟨rfl, B11⟩

/-! ### the frame (printed by mklaw.py) -/

set_option maxRecDepth 100000 in
theorem lifted_handlesTwo (os : Os) (started : os.Started) (H : Type) (enc : TypeId × Value → H) :
    ReturnsInHanded {} Try.checked os 6 .any (Rows.handlesTwoSpec.pre6 enc Try.prog Try.f6 Rows.handlesTwoRow.domain false) (Rows.handlesTwoSpec.post enc Try.prog Try.f6 false true false false) := by
  refine law_step (C := Try.checked) (tb := 4) (by kernel_rfl) (by kernel_rfl) started (by kernel_rfl) Try.func6 rfl Try.underlying4 rfl ?_ ?_
    (ChangeSpec.witness6 (enc := enc) (C := Try.checked) false ⟨#[], #[.slice none 0 0, .slice none 0 0], []⟩ 8 (by kernel_rfl) (by kernel_rfl) (by kernel_rfl) (by kernel_rfl)) ?_
  · intro ds hl
    match ds, hl with
    | [d0, d1], _ => rfl
  · intro t ht
    rw [show Try.f6.params.toList = [22, 22] from by rw [Try.params6]] at ht
    simp only [List.mem_cons, List.not_mem_nil, or_false] at ht
    rcases ht with rfl | rfl
    · exact ⟨by kernel_rfl, of_decide_eq_true (by kernel_rfl)⟩
    · exact ⟨by kernel_rfl, of_decide_eq_true (by kernel_rfl)⟩
  · intro W args hG
    rw [show Try.f6.params.toList = [22, 22] from by rw [Try.params6]] at hG
    obtain ⟨v0, v1, rfl, g0, g1⟩ := gotAll_args2 hG
    obtain ⟨a0, cap0, l0, rfl, hV0, hk0⟩ := got_acts g0
    obtain ⟨a1, cap1, l1, rfl, hV1, hk1⟩ := got_acts g1
    exact walk_handlesTwo W a0 cap0 l0 hV0 hk0 a1 cap1 l1 hV1 hk1

theorem handlesTwo_over : Rows.handlesTwoRow.holds Try.pinned (OpenSpec.ofChange Rows.handlesTwoSpec) :=
  OpenClaim.holds_of_wide 6 Try.f6 rfl rfl rfl rfl rfl rfl rfl ⟨rfl, rfl, rfl, rfl, rfl⟩ rfl rfl rfl rfl rfl (by kernel_rfl) Try.func6 (by kernel_rfl)
    (of_decide_eq_true (by kernel_rfl)) (by unfold Func.isWrapper; first | (rw [if_pos (by decide +kernel)]; kernel_rfl) | (rw [if_neg (by decide +kernel)]; exact ⟨rfl, rfl⟩))
    (fun os started H enc _ => lifted_handlesTwo os started H enc)

theorem handlesTwo_holds : Rows.HandlesTwoSaid := handlesTwo_over
#print axioms handlesTwo_holds

end Go.Proofs.Ythnnmhnddpghfaa
