/- For every input the law glissadelaw05.GeometryParts returns true. -/
import Derived.Test.YtmljampbajjmlaaGeoAlive
import Derived.Test.YtmljampbajjmlaaFrame
set_option linter.unusedVariables false
set_option linter.unusedSimpArgs false
namespace Go.Proofs.Ytmljampbajjmlaa
open Go.RowKit Go.Joins

/-- the part of the block before -/
def lastV (b l m G : Int) (k : Nat) : Int := if k = 0 then 0 else whereV b l m 1 (1 + l) G (1 + l + G) (m / 2) (1 + l + G + m / 2) ((k : Int) - 1)

theorem lastV_bd (b l m G : Int) (k : Nat) : -1 ≤ lastV b l m G k ∧ lastV b l m G k ≤ 4 := by
  unfold lastV whereV
  repeat' split
  all_goals omega

theorem where_eq {b l m G : Int} (hm : mayB b l m 1 (1 + l) G (1 + l + G) (m / 2) (1 + l + G + m / 2) = true) (k : Int) (h0 : 0 ≤ k) (hk : k < b) :
    whereV b l m 1 (1 + l) G (1 + l + G) (m / 2) (1 + l + G + m / 2) k = if k < 1 then 0 else if k < 1 + l then 1 else if k < 1 + l + G then 2 else if k < 1 + l + G + m / 2 then 3 else 4 := by
  unfold whereV; rw [if_pos ⟨hm, h0, hk⟩]

theorem last_same {b l m G : Int} (hm : mayB b l m 1 (1 + l) G (1 + l + G) (m / 2) (1 + l + G + m / 2) = true) (k : Nat) (hk : (k : Int) < b) (n1 : ¬ (k : Int) = 1) (n2 : ¬ (k : Int) = 1 + l) (n3 : ¬ (k : Int) = 1 + l + G) (n4 : ¬ (k : Int) = 1 + l + G + m / 2) :
    whereV b l m 1 (1 + l) G (1 + l + G) (m / 2) (1 + l + G + m / 2) (k : Int) = lastV b l m G k := by
  rw [where_eq hm _ (by omega) hk, lastV]
  by_cases k0 : k = 0
  · subst k0; rfl
  · rw [if_neg k0, where_eq hm _ (by omega) (by omega)]
    repeat' split
    all_goals omega

theorem last_more {b l m G : Int} (hm : mayB b l m 1 (1 + l) G (1 + l + G) (m / 2) (1 + l + G + m / 2) = true) (hl : 1 ≤ l) (hG : 1 ≤ G) (hD : 1 ≤ m / 2) (k : Nat) (hk : (k : Int) < b) (n1 : (k : Int) = 1 ∨ (k : Int) = 1 + l ∨ (k : Int) = 1 + l + G ∨ (k : Int) = 1 + l + G + m / 2) :
    whereV b l m 1 (1 + l) G (1 + l + G) (m / 2) (1 + l + G + m / 2) (k : Int) = lastV b l m G k + 1 := by
  rw [where_eq hm _ (by omega) hk, lastV, if_neg (by omega), where_eq hm _ (by omega) (by omega)]
  repeat' split
  all_goals omega

theorem lastV_succ (b l m G : Int) (k : Nat) : lastV b l m G (k + 1) = whereV b l m 1 (1 + l) G (1 + l + G) (m / 2) (1 + l + G + m / 2) (k : Int) := by
  rw [lastV, if_neg (by omega)]; congr 1; omega

theorem call_same (b l m G L : Int) (hm : mayB b l m 1 (1 + l) G (1 + l + G) (m / 2) (1 + l + G + m / 2) = true) (k : Nat) (hk : (k : Int) < b) (n1 : ¬ (k : Int) = 1) (n2 : ¬ (k : Int) = 1 + l) (n3 : ¬ (k : Int) = 1 + l + G) (n4 : ¬ (k : Int) = 1 + l + G + m / 2) (hL : L = lastV b l m G k) :
    Hid (∀ W, Calls Try.prog 31 #[gv b l m 1 (1 + l) G (1 + l + G) (m / 2) (1 + l + G + m / 2), .int .i64 (k : Int)] W fun e w' => e = .returned (.int .i64 L) ∧ Below W.heap.size W w') ∧ Hid (L = lastV b l m G (k + 1)) := by
  have e := last_same hm k hk n1 n2 n3 n4
  refine ⟨fun W => ?_, ?_⟩
  · have := where_any b l m 1 (1 + l) G (1 + l + G) (m / 2) (1 + l + G + m / 2) (k : Int) W
    rw [e, ← hL] at this; exact this
  · show _ = _
    rw [lastV_succ, e, hL]

theorem call_more (b l m G L : Int) (hm : mayB b l m 1 (1 + l) G (1 + l + G) (m / 2) (1 + l + G + m / 2) = true) (hl : 1 ≤ l) (hG : 1 ≤ G) (hD : 1 ≤ m / 2) (k : Nat) (hk : (k : Int) < b) (n1 : (k : Int) = 1 ∨ (k : Int) = 1 + l ∨ (k : Int) = 1 + l + G ∨ (k : Int) = 1 + l + G + m / 2) (hL : L = lastV b l m G k) :
    Hid (∀ W, Calls Try.prog 31 #[gv b l m 1 (1 + l) G (1 + l + G) (m / 2) (1 + l + G + m / 2), .int .i64 (k : Int)] W fun e w' => e = .returned (.int .i64 (L + 1)) ∧ Below W.heap.size W w') ∧ Hid (L + 1 = lastV b l m G (k + 1)) := by
  have e := last_more hm hl hG hD k hk n1
  refine ⟨fun W => ?_, ?_⟩
  · have := where_any b l m 1 (1 + l) G (1 + l + G) (m / 2) (1 + l + G + m / 2) (k : Int) W
    rw [e, ← hL] at this; exact this
  · show _ = _
    rw [lastV_succ, e, hL]

set_option maxRecDepth 100000 in
set_option maxHeartbeats 1000000 in
theorem parts_yes (w : World) (b l m G : Int) (HC1 : Hid (∀ W, Calls Try.prog 24 #[.int .i64 b, .int .i64 l, .int .i64 m] W fun e w' => e = .returned (.tuple #[gv b l m 1 (1 + l) G (1 + l + G) (m / 2) (1 + l + G + m / 2), .int .i64 0]) ∧ Below W.heap.size W w')) (HM : Hid (mayB b l m 1 (1 + l) G (1 + l + G) (m / 2) (1 + l + G + m / 2) = true))
    (f1 : 256 ≤ b) (f2 : b ≤ 4096) (f3 : 128 ≤ l) (f4 : l ≤ 512) (f5 : 8 ≤ m) (f6 : m ≤ 512) (hm2 : m / 2 * 2 = m) (f8 : 16 ≤ b - (1 + l + G + m / 2)) (g1 : 1 ≤ G) (g2 : G ≤ 4) (g3 : b ≤ G * 1024) (g4 : (G - 1) * 1024 < b) (d1 : 4 ≤ m / 2) (d2 : m / 2 ≤ 256) :
    Calls Try.prog 12 #[.int .i64 b, .int .i64 l, .int .i64 m] w fun e w' => e = .returned (.bool true) ∧ Below w.heap.size w w' := by
  go_enter Try.func12, Try.ntmps12
  go_wp2_with fail
  refine (HC1.out _).mono ?_
  rintro e w1 ⟨rfl, B1⟩
  go_wp2_with fail
  go_loopw [9, 10] (fun last i wr => ∃ (k : Nat) (L : Int), k ≤ b ∧ i = .int .i64 k ∧ last = .int .i64 L ∧ -1 ≤ L ∧ L ≤ 4 ∧ Hid (L = lastV b l m G k) ∧ RowAt wr w1.heap.size [.int .i64 b, .int .i64 l, .int .i64 m, .int .i64 1, .int .i64 (1 + l), .int .i64 G, .int .i64 (1 + l + G), .int .i64 (m / 2), .int .i64 (1 + l + G + m / 2)] ∧ Below w.heap.size w wr) (fun _ i _ => 5000 - (intOf i).toNat)
  case atStart => exact ⟨0, 0, by omega, rfl, rfl, by decide, by decide, rfl, rowAt_alloc w1 #[.int .i64 b, .int .i64 l, .int .i64 m, .int .i64 1, .int .i64 (1 + l), .int .i64 G, .int .i64 (1 + l + G), .int .i64 (m / 2), .int .i64 (1 + l + G + m / 2)] 42, B1.alloc B1.size _⟩
  case round =>
    obtain ⟨k, L, hk, rfl, rfl, L0, L4, HL, hr, B2⟩ := hrel
    obtain ⟨c0, c1, c2, c3, c4, c5, c6, c7, c8⟩ := geo_cells hr
    by_cases hlt : (k : Int) < b
    · by_cases hb : (k : Int) = 1 ∨ (k : Int) = 1 + l ∨ (k : Int) = 1 + l + G ∨ (k : Int) = 1 + l + G + m / 2
      · obtain ⟨HC2, HN⟩ := call_more b l m G L HM.out (by omega) g1 (by omega) k hlt hb HL.out
        have hL5 : L + 1 ≤ 4 := by have := (lastV_bd b l m G (k + 1)).2; rw [← HN.out] at this; exact this
        rcases hb with hb | hb | hb | hb
        · have n1 : ((k : Int) == 1) = true := by simp [hb]
          clear hb
          go_wp2_with fail
          refine (HC2.out _).mono ?_
          rintro e w3 ⟨rfl, hb3⟩
          have B3 := below_chain B2 hb3 B2.size
          have hr3 := hr.below hb3 hr.lt
          clear c0 c1 c2 c3 c4 c5 c6 c7 c8
          obtain ⟨c0, c1, c2, c3, c4, c5, c6, c7, c8⟩ := geo_cells hr3
          go_wp2_with fail
          go_roundw
          case rel => exact ⟨k + 1, L + 1, by omega, by go_num, rfl, by omega, by omega, HN, hr3, B3⟩
          case measure => simp [intOf]; omega
        · have n1 : ((k : Int) == 1) = false := by simp; omega
          have n2 : ((k : Int) == 1 + l) = true := by simp [hb]
          clear hb
          go_wp2_with fail
          refine (HC2.out _).mono ?_
          rintro e w3 ⟨rfl, hb3⟩
          have B3 := below_chain B2 hb3 B2.size
          have hr3 := hr.below hb3 hr.lt
          clear c0 c1 c2 c3 c4 c5 c6 c7 c8
          obtain ⟨c0, c1, c2, c3, c4, c5, c6, c7, c8⟩ := geo_cells hr3
          go_wp2_with fail
          go_roundw
          case rel => exact ⟨k + 1, L + 1, by omega, by go_num, rfl, by omega, by omega, HN, hr3, B3⟩
          case measure => simp [intOf]; omega
        · have n1 : ((k : Int) == 1) = false := by simp; omega
          have n2 : ((k : Int) == 1 + l) = false := by simp; omega
          have n3 : ((k : Int) == 1 + l + G) = true := by simp [hb]
          clear hb
          go_wp2_with fail
          refine (HC2.out _).mono ?_
          rintro e w3 ⟨rfl, hb3⟩
          have B3 := below_chain B2 hb3 B2.size
          have hr3 := hr.below hb3 hr.lt
          clear c0 c1 c2 c3 c4 c5 c6 c7 c8
          obtain ⟨c0, c1, c2, c3, c4, c5, c6, c7, c8⟩ := geo_cells hr3
          go_wp2_with fail
          go_roundw
          case rel => exact ⟨k + 1, L + 1, by omega, by go_num, rfl, by omega, by omega, HN, hr3, B3⟩
          case measure => simp [intOf]; omega
        · have n1 : ((k : Int) == 1) = false := by simp; omega
          have n2 : ((k : Int) == 1 + l) = false := by simp; omega
          have n3 : ((k : Int) == 1 + l + G) = false := by simp; omega
          have n4 : ((k : Int) == 1 + l + G + m / 2) = true := by simp [hb]
          clear hb
          go_wp2_with fail
          refine (HC2.out _).mono ?_
          rintro e w3 ⟨rfl, hb3⟩
          have B3 := below_chain B2 hb3 B2.size
          have hr3 := hr.below hb3 hr.lt
          clear c0 c1 c2 c3 c4 c5 c6 c7 c8
          obtain ⟨c0, c1, c2, c3, c4, c5, c6, c7, c8⟩ := geo_cells hr3
          go_wp2_with fail
          go_roundw
          case rel => exact ⟨k + 1, L + 1, by omega, by go_num, rfl, by omega, by omega, HN, hr3, B3⟩
          case measure => simp [intOf]; omega
      · obtain ⟨HC2, HN⟩ := call_same b l m G L HM.out k hlt (by omega) (by omega) (by omega) (by omega) HL.out
        have n1 : ((k : Int) == 1) = false := by simp; omega
        have n2 : ((k : Int) == 1 + l) = false := by simp; omega
        have n3 : ((k : Int) == 1 + l + G) = false := by simp; omega
        have n4 : ((k : Int) == 1 + l + G + m / 2) = false := by simp; omega
        clear hb
        go_wp2_with fail
        refine (HC2.out _).mono ?_
        rintro e w3 ⟨rfl, hb3⟩
        have B3 := below_chain B2 hb3 B2.size
        have hr3 := hr.below hb3 hr.lt
        clear c0 c1 c2 c3 c4 c5 c6 c7 c8
        obtain ⟨c0, c1, c2, c3, c4, c5, c6, c7, c8⟩ := geo_cells hr3
        go_wp2_with fail
        go_roundw
        case rel => exact ⟨k + 1, L, by omega, by go_num, rfl, by omega, by omega, HN, hr3, B3⟩
        case measure => simp [intOf]; omega
    · have hkb : (k : Int) = b := by omega
      have hL4 : L = 4 := by
        rw [HL.out, lastV, if_neg (by omega), where_eq HM.out _ (by omega) (by omega)]
        repeat rw [if_neg (by omega)]
      subst hL4
      have HC3 : Hid (∀ W, Calls Try.prog 31 #[gv b l m 1 (1 + l) G (1 + l + G) (m / 2) (1 + l + G + m / 2), .int .i64 (-1)] W fun e w' => e = .returned (.int .i64 (-1)) ∧ Below W.heap.size W w') := fun W => where_out _ _ _ _ _ _ _ _ _ _ W (by omega)
      have HC4 : Hid (∀ W, Calls Try.prog 31 #[gv b l m 1 (1 + l) G (1 + l + G) (m / 2) (1 + l + G + m / 2), .int .i64 b] W fun e w' => e = .returned (.int .i64 (-1)) ∧ Below W.heap.size W w') := fun W => where_out _ _ _ _ _ _ _ _ _ _ W (by omega)
      clear hkb
      go_wp2_with fail
      refine (HC3.out _).mono ?_
      rintro e w3 ⟨rfl, hb3⟩
      have B3 := below_chain B2 hb3 B2.size
      have hr3 := hr.below hb3 hr.lt
      clear c0 c1 c2 c3 c4 c5 c6 c7 c8
      obtain ⟨c0, c1, c2, c3, c4, c5, c6, c7, c8⟩ := geo_cells hr3
      go_wp2_with fail
      refine (HC4.out _).mono ?_
      rintro e w4 ⟨rfl, hb4⟩
      have B4 := below_chain B3 hb4 B3.size
      go_wp2_with fail
      refine (alive05 _).mono ?_
      rintro e w5 ⟨rfl, hb5⟩
      have B5 := below_chain B4 hb5 B4.size
      go_wp2_with fail
      go_ret
      exact ⟨rfl, B5⟩

set_option maxRecDepth 100000 in
set_option maxHeartbeats 1000000 in
theorem parts_no (w : World) (b l m : Int) (h : geoOk b l m = false) :
    Calls Try.prog 12 #[.int .i64 b, .int .i64 l, .int .i64 m] w fun e w' => e = .returned (.bool true) ∧ Below w.heap.size w w' := by
  have HC1 := Lib.hid (fun W => of_no b l m W h)
  clear h
  go_enter Try.func12, Try.ntmps12
  go_wp2_with fail
  refine (HC1.out _).mono ?_
  rintro e w1 ⟨rfl, B1⟩
  go_wp2_with fail
  refine (alive05 _).mono ?_
  rintro e w5 ⟨rfl, hb5⟩
  have B5 := below_chain (B1.alloc B1.size _) hb5 (B1.alloc B1.size _).size
  go_wp2_with fail
  go_ret
  exact ⟨rfl, B5⟩

theorem walk_geometryParts (w : World) (b : Int) (_ : -9223372036854775808 ≤ b) (_ : b ≤ 9223372036854775807) (l : Int) (_ : -9223372036854775808 ≤ l) (_ : l ≤ 9223372036854775807) (m : Int) (_ : -9223372036854775808 ≤ m) (_ : m ≤ 9223372036854775807) :
    Calls Try.prog 12 #[.int .i64 b, .int .i64 l, .int .i64 m] w fun e w' => e = .returned (.bool true) ∧ Below w.heap.size w w' := by
  by_cases h : geoOk b l m = true
  · obtain ⟨h1, h2, h3, h4, h5, h6, h7, h8⟩ := geoOk_iff.1 h
    have hm : mayB b l m 1 (1 + l) (gMap b) (1 + l + gMap b) (m / 2) (1 + l + gMap b + m / 2) = true := mayB_iff.2 ⟨h, rfl, rfl, rfl, rfl, rfl, rfl⟩
    have hg := gMap_bd h1 h2
    have hg2 : b ≤ gMap b * 1024 ∧ (gMap b - 1) * 1024 < b := by unfold gMap; omega
    exact parts_yes w b l m (gMap b) (Lib.hid (fun W => of_yes b l m W h)) (Lib.hid hm) h1 h2 h3 h4 h5 h6 (by omega) h8 hg.1 hg.2 hg2.1 hg2.2 (by omega) (by omega)
  · exact parts_no w b l m (by simpa using h)

/-! ### the frame (printed by mklaw.py) -/

set_option maxRecDepth 100000 in
theorem lifted_geometryParts (os : Os) (started : os.Started) (H : Type) (enc : TypeId × Value → H) :
    ReturnsInHanded {} Try.checked os 12 .any (Rows.geometryPartsSpec.pre6 enc Try.prog Try.f12 Rows.geometryPartsRow.domain false) (Rows.geometryPartsSpec.post enc Try.prog Try.f12 false true false false) := by
  refine law_step (C := Try.checked) (tb := 4) (by kernel_rfl) (by kernel_rfl) started (by kernel_rfl) Try.func12 rfl Try.underlying4 rfl ?_ ?_
    (ChangeSpec.witness6 (enc := enc) (C := Try.checked) false ⟨#[], #[.int .i64 0, .int .i64 0, .int .i64 0], []⟩ 8 (by kernel_rfl) (by kernel_rfl) (by kernel_rfl) (by kernel_rfl)) ?_
  · intro ds hl
    match ds, hl with
    | [d0, d1, d2], _ => rfl
  · intro t ht
    rw [show Try.f12.params.toList = [3, 3, 3] from by rw [Try.params12]] at ht
    simp only [List.mem_cons, List.not_mem_nil, or_false] at ht
    rcases ht with rfl | rfl | rfl
    · exact ⟨by kernel_rfl, of_decide_eq_true (by kernel_rfl)⟩
    · exact ⟨by kernel_rfl, of_decide_eq_true (by kernel_rfl)⟩
    · exact ⟨by kernel_rfl, of_decide_eq_true (by kernel_rfl)⟩
  · intro W args hG
    rw [show Try.f12.params.toList = [3, 3, 3] from by rw [Try.params12]] at hG
    obtain ⟨v0, v1, v2, rfl, g0, g1, g2⟩ := gotAll_args3 hG
    obtain ⟨a0, rfl, b0, c0⟩ := got_i64 Try.underlying3 g0
    obtain ⟨a1, rfl, b1, c1⟩ := got_i64 Try.underlying3 g1
    obtain ⟨a2, rfl, b2, c2⟩ := got_i64 Try.underlying3 g2
    exact walk_geometryParts W a0 b0 c0 a1 b1 c1 a2 b2 c2

theorem geometryParts_over : Rows.geometryPartsRow.holds Try.pinned (OpenSpec.ofChange Rows.geometryPartsSpec) :=
  OpenClaim.holds_of_wide 12 Try.f12 rfl rfl rfl rfl rfl rfl rfl ⟨rfl, rfl, rfl, rfl, rfl⟩ rfl rfl rfl rfl rfl (by kernel_rfl) Try.func12 (by kernel_rfl)
    (of_decide_eq_true (by kernel_rfl)) (by unfold Func.isWrapper; first | (rw [if_pos (by decide +kernel)]; kernel_rfl) | (rw [if_neg (by decide +kernel)]; exact ⟨rfl, rfl⟩))
    (fun os started H enc _ => lifted_geometryParts os started H enc)

theorem geometryParts_holds : Rows.GeometryPartsSaid := geometryParts_over
#print axioms geometryParts_holds

end Go.Proofs.Ytmljampbajjmlaa
