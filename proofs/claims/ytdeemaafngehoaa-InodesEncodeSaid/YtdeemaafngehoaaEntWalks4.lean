/- Walks: the document's answer: may entries be, and are they in order? -/
import Derived.Test.YtdeemaafngehoaaEntWalks3
set_option linter.unusedVariables false
set_option linter.unusedSimpArgs false
set_option maxRecDepth 100000
namespace Go.Proofs.Ytdeemaafngehoaa
open Go.RowKit Go.Joins

set_option maxHeartbeats 2000000 in
theorem entRow_some (B o cap : Nat) (es : List (Int × Int × Int)) (leaf : Bool) (w : World) (hn : es.length ≤ 100000) (hE : EntAt w B o es) :
    Calls Try.prog 48 #[.slice (some ⟨B, o, none⟩) es.length cap, .bool leaf] w fun e w' => e = .returned (.bool (rowOk es leaf)) ∧ Below w.heap.size w w' := by
  go_enter Try.func48, Try.ntmps48
  go_wp2_with fail
  go_loopw [5] (fun j wr => ∃ k : Nat, k ≤ es.length ∧ j = .int .i64 k ∧ (∀ m < k, stepOk es leaf m = true) ∧ Below w.heap.size w wr) (fun j _ => es.length - (intOf j).toNat)
  case atStart =>
    exact ⟨0, by omega, rfl, fun m hm => absurd hm (by omega), Below.refl _ _⟩
  case round =>
    obtain ⟨k, hk, rfl, hall, B1⟩ := hrel
    have HA := Lib.hid hall
    clear hall
    by_cases hlt : k < es.length
    · obtain ⟨hB, hcs⟩ := hE.below B1 hE.1
      obtain ⟨c0, c1, c2⟩ := hcs k hlt
      obtain ⟨x, hx⟩ : ∃ x, es[k]? = some x := ⟨_, List.getElem?_eq_getElem hlt⟩
      have hx2 : es[k] = x := by rw [List.getElem?_eq_getElem hlt] at hx; exact Option.some.inj hx
      rw [hx2] at c0 c1 c2
      have HCS := Lib.hid hcs
      clear hcs
      go_wp2_with fail
      refine (rmay_any _ _ _ _ _).mono ?_
      rintro e w4 ⟨rfl, hb4⟩
      have B4 := below_chain B1 hb4 B1.size
      have hE4 := (hE.below B1 hE.1).below hb4 hB
      clear c0 c1 c2
      obtain ⟨c0, c1, c2⟩ := hE4.2 k hlt
      rw [hx2] at c0 c1 c2
      have hB4 := hE4.1
      by_cases hm : entOk x.1 x.2.1 x.2.2 leaf = true
      · rcases Nat.eq_zero_or_pos k with rfl | hpos
        · rw [hm]
          go_wp2_with fail
          go_roundw
          case rel =>
            refine ⟨1, by omega, by go_num, ?_, B4⟩
            intro m hm2
            obtain rfl : m = 0 := by omega
            simp [stepOk, hx, hm]
          case measure => simp [intOf]; omega
        · obtain ⟨k, rfl⟩ : ∃ k', k = k' + 1 := ⟨k - 1, by omega⟩
          obtain ⟨p, hp⟩ : ∃ p, es[k]? = some p := ⟨_, List.getElem?_eq_getElem (by omega)⟩
          have hp2 : es[k] = p := by rw [List.getElem?_eq_getElem (by omega)] at hp; exact Option.some.inj hp
          obtain ⟨d0, d1, d2⟩ := hE4.2 k (by omega)
          rw [hp2] at d0 d1 d2
          have hpm : entOk p.1 p.2.1 p.2.2 leaf = true := by
            have := HA.out k (by omega)
            simp only [stepOk, hp, Bool.and_eq_true] at this
            exact this.1
          have r1 := entOk_range hm
          have r2 := entOk_range hpm
          have ek : (k : Int) + 1 - 1 = (k : Int) := by omega
          have hi0 : (0 : Int) ≤ (k : Int) + 1 := by omega
          have hi1 : (k : Int) + 1 < (es.length : Int) := by omega
          obtain ⟨s1, s2⟩ := r1
          obtain ⟨s3, s4⟩ := r2
          rw [hm]
          have hst : stepOk es leaf (k + 1) = (decide (p.1 < x.1) && decide (p.1 + p.2.2 ≤ x.1)) := by
            simp [stepOk, hx, hp, hm]
          have HS := Lib.hid hst
          clear hst
          have B5 := B4.alloc B4.size (.cells #[.int .i64 p.1, .int .i64 p.2.1, .int .i64 p.2.2] 26)
          have hwr : IntKind.i64.wrap (p.1 + p.2.2) = p.1 + p.2.2 := IntWalk.i64_in _ (by omega)
          by_cases g1 : x.1 ≤ p.1
          · go_wp2_with fail
            go_quiet (fail)
            go_wp2_with fail
            try (go_quiet (fail); go_wp2_with fail)
            go_ret
            refine ⟨congrArg Ending.returned (congrArg Value.bool (rowOk_no hlt ?_).symm), ?_⟩
            · rw [HS.out]; simp; omega
            · first | exact B4 | exact B5 | exact B5.trans (below_le (below_draws _ _ _) B5.size)
          · have g1' : p.1 < x.1 := by omega
            clear g1
            by_cases g2 : x.1 < p.1 + p.2.2
            · go_wp2_with fail
              go_quiet (fail)
              go_wp2_with fail
              try (go_quiet (fail); go_wp2_with fail)
              go_ret
              refine ⟨congrArg Ending.returned (congrArg Value.bool (rowOk_no hlt ?_).symm), ?_⟩
              · rw [HS.out]; simp; omega
              · first | exact B4 | exact B5 | exact B5.trans (below_le (below_draws _ _ _) B5.size)
            · have g2' : p.1 + p.2.2 ≤ x.1 := by omega
              clear g2
              go_wp2_with fail
              go_quiet (fail)
              go_wp2_with fail
              try (go_quiet (fail); go_wp2_with fail)
              go_roundw
              case rel =>
                refine ⟨k + 2, by omega, by go_num, ?_, ?_⟩
                · intro m hm2
                  by_cases c : m < k + 1
                  · exact HA.out m c
                  · obtain rfl : m = k + 1 := by omega
                    rw [HS.out]; simp; omega
                · first | exact B4 | exact B5 | exact B5.trans (below_le (below_draws _ _ _) B5.size)
              case measure => simp [intOf]; omega
      · rw [show entOk x.1 x.2.1 x.2.2 leaf = false by simpa using hm]
        go_wp2_with fail
        go_ret
        refine ⟨congrArg Ending.returned (congrArg Value.bool (rowOk_no hlt ?_).symm), B4⟩
        simp [stepOk, hx, show entOk x.1 x.2.1 x.2.2 leaf = false by simpa using hm]
    · obtain rfl : k = es.length := by omega
      go_wp2_with fail
      go_ret
      exact ⟨congrArg Ending.returned (congrArg Value.bool (rowOk_yes HA.out).symm), B1⟩

theorem entRow_none (a : Option Addr) (cap : Nat) (leaf : Bool) (w : World) :
    Calls Try.prog 48 #[.slice a 0 cap, .bool leaf] w fun e w' => e = .returned (.bool true) ∧ Below w.heap.size w w' := by
  go_enter Try.func48, Try.ntmps48
  go_wp2_with fail
  refine wp_loop_rounds 1 ?_
  rw [rounds_succ]
  go_wp2_with fail
  go_ret
  exact ⟨rfl, Below.refl _ _⟩

end Go.Proofs.Ytdeemaafngehoaa
