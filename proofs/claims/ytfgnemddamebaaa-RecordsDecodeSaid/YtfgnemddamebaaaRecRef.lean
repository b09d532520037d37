/- Walks: the document's answer: are numbers homes? -/
import Derived.Test.YtfgnemddamebaaaRecWalks
set_option linter.unusedVariables false
set_option linter.unusedSimpArgs false
set_option maxRecDepth 100000
namespace Go.Proofs.Ytfgnemddamebaaa
open Go.RowKit Go.Joins

set_option maxHeartbeats 2000000 in
theorem rising_in (B o cap : Nat) (hs : List Int) (most : Int) (w : World) (h1' : (1 : Int) ≤ (hs.length : Int)) (h2' : (hs.length : Int) ≤ most) (hn : hs.length ≤ 100000) (hE : ValAt w B o (hs.map (Value.int .i64))) :
    Calls Try.prog 51 #[.slice (some ⟨B, o, none⟩) hs.length cap, .int .i64 most] w fun e w' => e = .returned (.bool (homesOk hs most)) ∧ Below w.heap.size w w' := by
  go_enter Try.func51, Try.ntmps51
  go_wp2_with fail
  go_loopw [5] (fun j wr => ∃ k : Nat, k ≤ hs.length ∧ j = .int .i64 k ∧ (∀ m < k, stepH hs m = true) ∧ Below w.heap.size w wr) (fun j _ => hs.length - (intOf j).toNat)
  case atStart =>
    exact ⟨0, by omega, rfl, fun m hm => absurd hm (by omega), Below.refl _ _⟩
  case round =>
    obtain ⟨k, hk, rfl, hall, BW⟩ := hrel
    have hE2 := hE.below BW hE.1
    have HA := Lib.hid hall
    clear hall
    by_cases hlt : k < hs.length
    · obtain ⟨b, hb⟩ : ∃ b, hs[k]? = some b := ⟨_, List.getElem?_eq_getElem hlt⟩
      have c0 := ints_at hE2 hb
      have hi0 : (0 : Int) ≤ (k : Int) := by omega
      have hi1 : (k : Int) < (hs.length : Int) := by omega
      by_cases b0 : b < 0
      · have HR : Hid (homesOk hs most = false) := by
          show _ = _
          rw [homesOk, risOk_no hlt (by simp [stepH, hb]; omega)]; rfl
        have HB := Lib.hid hb
        clear hb
        go_wp2_with go_quiet (fail)
        go_ret
        rw [HR.out]
        exact ⟨rfl, below_drewN BW _⟩
      · by_cases b1 : 4096 ≤ b
        · have HR : Hid (homesOk hs most = false) := by
            show _ = _
            rw [homesOk, risOk_no hlt (by simp [stepH, hb]; omega)]; rfl
          have HB := Lib.hid hb
          clear hb
          go_wp2_with go_quiet (fail)
          go_ret
          rw [HR.out]
          exact ⟨rfl, below_drewN BW _⟩
        · rcases Nat.eq_zero_or_pos k with rfl | hpos
          · have HB := Lib.hid hb
            clear hb
            have c00 : wr.cell? ⟨B, o, none⟩ = some (.int .i64 b) := c0
            go_wp2_with go_quiet (fail)
            go_roundw
            case rel =>
              refine ⟨1, by omega, by go_num, fun m hm => ?_, below_drewN BW _⟩
              obtain rfl : m = 0 := by omega
              have := HB.out
              simp [stepH, this]; omega
            case measure => simp [intOf]; omega
          · obtain ⟨k, rfl⟩ : ∃ k', k = k' + 1 := ⟨k - 1, by omega⟩
            obtain ⟨c, hc⟩ : ∃ c, hs[k]? = some c := ⟨_, List.getElem?_eq_getElem (by omega)⟩
            have d0 := ints_at hE2 hc
            have ek : (k : Int) + 1 - 1 = (k : Int) := by omega
            have hj0 : (0 : Int) ≤ (k : Int) + 1 := by omega
            have hj1 : (k : Int) + 1 < (hs.length : Int) := by omega
            have hj2 : (k : Int) < (hs.length : Int) := by omega
            have hst : stepH hs (k + 1) = decide (c < b) := by
              have g0 : 0 ≤ b := by omega
              have g1 : b < 4096 := by omega
              simp [stepH, hb, hc, g0, g1]
            have HS := Lib.hid hst
            have HB := Lib.hid hb
            have HC := Lib.hid hc
            clear hb hc hst
            by_cases g : b ≤ c
            · have HR : Hid (homesOk hs most = false) := by
                show _ = _
                rw [homesOk, risOk_no hlt (by rw [HS.out]; simp; omega)]; rfl
              go_wp2_with go_quiet (fail)
              go_ret
              rw [HR.out]
              exact ⟨rfl, below_drewN BW _⟩
            · go_wp2_with go_quiet (fail)
              go_roundw
              case rel =>
                refine ⟨k + 2, by omega, by go_num, fun m hm => ?_, below_drewN BW _⟩
                by_cases cc : m < k + 1
                · exact HA.out m cc
                · obtain rfl : m = k + 1 := by omega
                  rw [HS.out]; simp; omega
              case measure => simp [intOf]; omega
    · obtain rfl : k = hs.length := by omega
      have HR : Hid (homesOk hs most = (decide (1 ≤ hs.length) && decide ((hs.length : Int) ≤ most))) := by
        show _ = _
        rw [homesOk, risOk_yes HA.out]; rfl
      go_wp2_with fail
      go_ret
      rw [HR.out]
      exact ⟨by simp; omega, BW⟩

theorem rising_out (a : Option Addr) (n cap : Nat) (most : Int) (w : World) (h : (n : Int) < 1 ∨ most < (n : Int)) :
    Calls Try.prog 51 #[.slice a n cap, .int .i64 most] w fun e w' => e = .returned (.bool false) ∧ Below w.heap.size w w' := by
  by_cases h1 : (n : Int) < 1
  · go_enter Try.func51, Try.ntmps51
    go_wp2
    go_ret
    exact ⟨rfl, Below.refl _ _⟩
  · have h2 : most < (n : Int) := by omega
    have h1' : (1 : Int) ≤ (n : Int) := by omega
    clear h h1
    go_enter Try.func51, Try.ntmps51
    go_wp2
    go_ret
    exact ⟨rfl, Below.refl _ _⟩

theorem rising_any {a : Option Addr} (cap : Nat) {hs : List Int} (most : Int) (w : World) (hn : hs.length ≤ 100000) (hE : ValS w a (hs.map (Value.int .i64))) :
    Calls Try.prog 51 #[.slice a hs.length cap, .int .i64 most] w fun e w' => e = .returned (.bool (homesOk hs most)) ∧ Below w.heap.size w w' := by
  by_cases ho : (hs.length : Int) < 1 ∨ most < (hs.length : Int)
  · have : homesOk hs most = false := by
      rw [homesOk]
      rcases ho with h | h
      · rw [decide_eq_false (show ¬ 1 ≤ hs.length by omega)]; simp
      · rw [decide_eq_false (show ¬ (hs.length : Int) ≤ most by omega)]; simp
    rw [this]
    exact rising_out a hs.length cap most w ho
  · rcases hE with h | ⟨B, o, rfl, h⟩
    · have : hs = [] := by simpa using h
      subst this
      simp at ho
    · exact rising_in B o cap hs most w (by omega) (by omega) hn h

end Go.Proofs.Ytfgnemddamebaaa
