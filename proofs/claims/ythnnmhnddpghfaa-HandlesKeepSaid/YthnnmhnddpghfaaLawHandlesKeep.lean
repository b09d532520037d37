/- For every input the law glissadelaw21.HandlesKeep returns true. -/
import Derived.BigQuiet
import Derived.Deep.QuietTactic
import Derived.Deep.RegionHeld3
import Derived.Test.YthnnmhnddpghfaaHanAlive
import Derived.Test.YthnnmhnddpghfaaPlainHan2
import Derived.Test.YthnnmhnddpghfaaFrame
set_option linter.unusedVariables false
set_option linter.unusedSimpArgs false
set_option maxRecDepth 100000
namespace Go.Proofs.Ythnnmhnddpghfaa
open Go.RowKit Go.Joins

theorem act_cells {w : World} {a : Option Addr} {l : List Ac} {k : Nat} {x : Ac} (h : Val3 w a (l.map Ac.v)) (hx : l[k]? = some x) : ∃ B o, a = some ⟨B, o, none⟩ ∧ B < w.heap.size ∧ w.cell? ⟨B, o + k * 3, none⟩ = some (.int .u8 x.k) ∧ w.cell? ⟨B, o + k * 3 + 1, none⟩ = some (.int .i64 x.fd) ∧ w.cell? ⟨B, o + k * 3 + 2, none⟩ = some (.int .i64 x.n) := by
  rcases h with h | ⟨B, o, e, hb, h⟩
  · have := (List.getElem?_eq_some_iff.1 hx).1
    rw [List.map_eq_nil_iff] at h
    rw [h] at this
    simp at this
  · obtain ⟨c0, c1, c2⟩ := h k x.v (by rw [List.getElem?_map, hx]; rfl)
    exact ⟨B, o, e, hb, c0, c1, c2⟩

set_option maxHeartbeats 8000000 in
theorem walk_handlesKeep (w : World) (a : Option Addr) (cap : Nat) (l : List Ac) (hV : Val3 w a (l.map Ac.v)) (hk : ∀ z ∈ l, 0 ≤ z.k ∧ z.k ≤ 255) (b : Option Addr) (cap' : Nat) (m : List Ac) (hV' : Val3 w b (m.map Ac.v)) (hk' : ∀ z ∈ m, 0 ≤ z.k ∧ z.k ≤ 255) (fd : Int) (f0 : -9223372036854775808 ≤ fd) (f1 : fd ≤ 9223372036854775807) :
    Calls Try.prog 3 #[.slice a l.length cap, .slice b m.length cap', .int .i64 fd] w fun e w' => e = .returned (.bool true) ∧ Below w.heap.size w w' := by
  by_cases hc : l.length ≤ 100 ∧ m.length ≤ 100
  case neg =>
    have hc2 : (100 : Int) < (l.length : Int) ∨ ((l.length : Int) ≤ 100 ∧ (100 : Int) < (m.length : Int)) := by omega
    clear hV hV' hk hk' hc
    rcases hc2 with h1 | ⟨h1, h2⟩
    all_goals
      go_enter Try.func3, Try.ntmps3
      go_wp2_with fail
      refine (lives21 _).mono ?_
      rintro e w1 ⟨rfl, hb⟩
      go_wp2_with fail
      go_ret
      exact ⟨rfl, hb⟩
  obtain ⟨hl, hm⟩ := hc
  have hl' : (l.length : Int) ≤ 100 := by omega
  have hm' : (m.length : Int) ≤ 100 := by omega
  have HV := Lib.hid hV
  have HV2 := Lib.hid hV'
  have HK := Lib.hid hk
  have HK2 := Lib.hid hk'
  have HC0 := Lib.hid (hnew w)
  clear hV hV' hk hk'
  go_enter Try.func3, Try.ntmps3
  go_wp2_with fail
  refine HC0.out.mono ?_
  rintro e w0 ⟨rfl, hT0, B0⟩
  have hK : Hid (w.heap.size ≤ w.heap.size) := Nat.le_refl _
  clear HC0
  go_wp2_with fail
  go_loopw [8] (fun jj wr => ∃ k : Nat, k ≤ l.length ∧ jj = .int .i64 k ∧ TabAt wr w.heap.size true (playT zeroT (l.take k)) ∧ Below w.heap.size w wr) (fun jj _ => l.length - (intOf jj).toNat)
  case atStart => exact ⟨0, by omega, rfl, hT0, B0⟩
  case round =>
    obtain ⟨k, hk, rfl, hT, B⟩ := hrel
    by_cases hlt : k < l.length
    · obtain ⟨x, hx⟩ : ∃ x, l[k]? = some x := ⟨_, List.getElem?_eq_getElem hlt⟩
      obtain ⟨P, o, rfl, hP, c0, c1, c2⟩ := act_cells (HV.out.below B (Nat.le_refl _)) hx
      have hkk := HK.out x (List.mem_of_getElem? hx)
      have HD := Lib.hid (hdoes w.heap.size _ x.k x.fd x.n wr hT hkk.1 hkk.2)
      have HS := Lib.hid (playT_snoc (T := zeroT) hx)
      have h1 : (k : Int) < (l.length : Int) := by omega
      clear hT hx hkk
      go_wp2_with fail
      refine HD.out.mono ?_
      rintro e w1 ⟨⟨z, rfl⟩, hT1, hg⟩
      have B1 := grown_below4 B hg (fun j hj => by injection hj with hj; omega) B.size
      have HT1 : Hid (TabAt w1 w.heap.size true (playT zeroT (l.take (k + 1)))) := by
        show TabAt _ _ _ _
        rw [HS.out]; exact hT1
      clear hT1 hg HD HS
      go_wp2_with fail
      go_roundw
      case rel => exact ⟨k + 1, by omega, by go_num, HT1.out, B1⟩
      case measure => simp [intOf]; omega
    · obtain rfl : k = l.length := by omega
      rw [List.take_length] at hT
      generalize playT zeroT l = T at hT
      have hnl : ¬ ((l.length : Int) < (l.length : Int)) := by omega
      cases hs : slotOf T fd with
      | none =>
        have HG := Lib.hid (hget_bad w.heap.size T fd wr hT hs)
        clear hT hs
        go_wp2_with fail
        refine HG.out.mono ?_
        rintro e w1 ⟨rfl, rfl⟩
        go_wp2_with fail
        refine (lives21 _).mono ?_
        rintro e w2 ⟨rfl, hb⟩
        have B2 := below_chain B hb B.size
        go_wp2_with fail
        go_ret
        exact ⟨rfl, B2⟩
      | some s =>
        have HG := Lib.hid (hget_ok w.heap.size T fd s wr hT hs)
        have HT := Lib.hid hT
        have HS0 := Lib.hid hs
        clear hT hs
        go_wp2_with fail
        refine HG.out.mono ?_
        rintro e w1 ⟨rfl, hb1⟩
        have B1 := below_chain B hb1 B.size
        have HT1 := Lib.hid (HT.out.below hb1 (Nat.le_refl _))
        clear HT hb1 B HG
        go_wp2_with fail
        go_loopw [12] (fun jj wr => ∃ (k : Nat) (T' : List Sl), k ≤ m.length ∧ jj = .int .i64 k ∧ TabAt wr w.heap.size true T' ∧ slotOf T' fd = some s ∧ Below w.heap.size w wr) (fun jj _ => m.length - (intOf jj).toNat)
        case atStart => exact ⟨0, T, by omega, rfl, HT1.out, HS0.out, B1⟩
        case round =>
          obtain ⟨k, T', hk, rfl, hT, hs, B⟩ := hrel
          by_cases hlt : k < m.length
          · obtain ⟨x, hx⟩ : ∃ x, m[k]? = some x := ⟨_, List.getElem?_eq_getElem hlt⟩
            obtain ⟨P, o, rfl, hP, c0, c1, c2⟩ := act_cells (HV2.out.below B (Nat.le_refl _)) hx
            have hkk := HK2.out x (List.mem_of_getElem? hx)
            have HD := Lib.hid (hdoes w.heap.size _ x.k x.fd x.n wr hT hkk.1 hkk.2)
            have h1 : (k : Int) < (m.length : Int) := by omega
            by_cases hq : x.k % 3 = 0 ∨ x.fd ≠ fd
            · have HQ := Lib.hid (keep_does (k := x.k) (f := x.fd) (n := x.n) hs hq)
              clear hT hs hx
              have hq' : x.k % 3 = 0 ∨ (x.k % 3 ≠ 0 ∧ x.fd ≠ fd) := by
                rcases hq with h | h
                · exact .inl h
                · by_cases h2 : x.k % 3 = 0
                  · exact .inl h2
                  · exact .inr ⟨h2, h⟩
              clear hq
              rcases hq' with q | ⟨q, q2⟩
              all_goals
                try have q3 : (x.fd != fd) = true := bne_iff_ne.2 q2
                go_wp2_with fail
                refine HD.out.mono ?_
                rintro e w2 ⟨⟨z, rfl⟩, hT1, hg⟩
                have B2 := grown_below4 B hg (fun j hj => by injection hj with hj; omega) B.size
                have HT2 := Lib.hid hT1
                clear hT1 hg HD
                go_wp2_with fail
                go_roundw
                case rel => exact ⟨k + 1, _, by omega, by go_num, HT2.out, HQ.out, B2⟩
                case measure => simp [intOf]; omega
            · have q : ¬ x.k % 3 = 0 := fun h => hq (.inl h)
              have q2 : x.fd = fd := Classical.byContradiction fun h => hq (.inr h)
              have HT2 := Lib.hid hT
              have HQ := Lib.hid hs
              clear hT hs hx hq HD
              go_wp2_with fail
              go_roundw
              case rel => exact ⟨k + 1, _, by omega, by go_num, HT2.out, HQ.out, B⟩
              case measure => simp [intOf]; omega
          · obtain rfl : k = m.length := by omega
            have hnl2 : ¬ ((m.length : Int) < (m.length : Int)) := by omega
            have HG2 := Lib.hid (hget_ok w.heap.size T' fd s wr hT hs)
            have HH : Hid (∀ W, TabAt W w.heap.size true T' → Calls Try.prog 12 #[.pointer (some ⟨w.heap.size, 0, none⟩), .int .i64 s.n] W fun e w' => e = .returned (.bool true) ∧ Below W.heap.size W w') := fun W hW => by have := hhas w.heap.size T' s.n W hW; rw [slot_has hs] at this; exact this
            have HT := Lib.hid hT
            clear hT hs
            go_wp2_with fail
            refine HG2.out.mono ?_
            rintro e w2 ⟨rfl, hb2⟩
            have B2 := below_chain B hb2 B.size
            have HT2 := Lib.hid (HT.out.below hb2 (Nat.le_refl _))
            clear hb2 HT
            go_wp2_with fail
            refine (HH.out _ HT2.out).mono ?_
            rintro e w3 ⟨rfl, hb3⟩
            have B3 := below_chain B2 hb3 B2.size
            go_wp2_with fail
            refine (lives21 _).mono ?_
            rintro e w4 ⟨rfl, hb4⟩
            have B4 := below_chain B3 hb4 B3.size
            go_wp2_with fail
            go_ret
            exact ⟨rfl, B4⟩

/-! ### the frame (printed by mklaw.py) -/

set_option maxRecDepth 100000 in
theorem lifted_handlesKeep (os : Os) (started : os.Started) (H : Type) (enc : TypeId × Value → H) :
    ReturnsInHanded {} Try.checked os 3 .any (Rows.handlesKeepSpec.pre6 enc Try.prog Try.f3 Rows.handlesKeepRow.domain false) (Rows.handlesKeepSpec.post enc Try.prog Try.f3 false true false false) := by
  refine law_step (C := Try.checked) (tb := 4) (by kernel_rfl) (by kernel_rfl) started (by kernel_rfl) Try.func3 rfl Try.underlying4 rfl ?_ ?_
    (ChangeSpec.witness6 (enc := enc) (C := Try.checked) false ⟨#[], #[.slice none 0 0, .slice none 0 0, .int .i64 0], []⟩ 8 (by kernel_rfl) (by kernel_rfl) (by kernel_rfl) (by kernel_rfl)) ?_
  · intro ds hl
    match ds, hl with
    | [d0, d1, d2], _ => rfl
  · intro t ht
    rw [show Try.f3.params.toList = [22, 22, 3] from by rw [Try.params3]] at ht
    simp only [List.mem_cons, List.not_mem_nil, or_false] at ht
    rcases ht with rfl | rfl | rfl
    · exact ⟨by kernel_rfl, of_decide_eq_true (by kernel_rfl)⟩
    · exact ⟨by kernel_rfl, of_decide_eq_true (by kernel_rfl)⟩
    · exact ⟨by kernel_rfl, of_decide_eq_true (by kernel_rfl)⟩
  · intro W args hG
    rw [show Try.f3.params.toList = [22, 22, 3] from by rw [Try.params3]] at hG
    obtain ⟨v0, v1, v2, rfl, g0, g1, g2⟩ := gotAll_args3 hG
    obtain ⟨a0, cap0, l0, rfl, hV0, hk0⟩ := got_acts g0
    obtain ⟨a1, cap1, l1, rfl, hV1, hk1⟩ := got_acts g1
    obtain ⟨a2, rfl, b2, c2⟩ := got_i64 Try.underlying3 g2
    exact walk_handlesKeep W a0 cap0 l0 hV0 hk0 a1 cap1 l1 hV1 hk1 a2 b2 c2

theorem handlesKeep_over : Rows.handlesKeepRow.holds Try.pinned (OpenSpec.ofChange Rows.handlesKeepSpec) :=
  OpenClaim.holds_of_wide 3 Try.f3 rfl rfl rfl rfl rfl rfl rfl ⟨rfl, rfl, rfl, rfl, rfl⟩ rfl rfl rfl rfl rfl (by kernel_rfl) Try.func3 (by kernel_rfl)
    (of_decide_eq_true (by kernel_rfl)) (by unfold Func.isWrapper; first | (rw [if_pos (by decide +kernel)]; kernel_rfl) | (rw [if_neg (by decide +kernel)]; exact ⟨rfl, rfl⟩))
    (fun os started H enc _ => lifted_handlesKeep os started H enc)

theorem handlesKeep_holds : Rows.HandlesKeepSaid := handlesKeep_over
#print axioms handlesKeep_holds

end Go.Proofs.Ythnnmhnddpghfaa
