/- Walks: are numbers homes? may a record be? -/
import Derived.Test.YtfgnemddamebaaaPlainRec
import Derived.Test.YtfgnemddamebaaaRows
import Derived.Test.YtfgnemddamebaaaAid
import Derived.WalkKit
import Derived.WalkSpells
import Derived.WalkLawsBesides
import Derived.Handy
import Derived.Lib.Hide
import Derived.BigQuiet
import Derived.Deep.QuietTactic
set_option linter.unusedVariables false
set_option linter.unusedSimpArgs false
set_option maxRecDepth 100000
namespace Go.Proofs.Ytfgnemddamebaaa
open Go.RowKit Go.Joins

abbrev iV (z : Int) : Value := .int .i64 z

theorem ints_at {w : World} {B o : Nat} {hs : List Int} (h : ValAt w B o (hs.map (Value.int .i64))) {k : Nat} {b : Int} (hb : hs[k]? = some b) : w.cell? ⟨B, o + k, none⟩ = some (.int .i64 b) :=
  h.2 k _ (by simp [hb])

set_option maxHeartbeats 2000000 in
theorem homes_some (B o cap : Nat) (hs : List Int) (most : Int) (w : World) (hn : hs.length ≤ 100000) (hE : ValAt w B o (hs.map (Value.int .i64))) :
    Calls Try.prog 45 #[.slice (some ⟨B, o, none⟩) hs.length cap, .int .i64 most] w fun e w' => e = .returned (.bool (homesOk hs most)) ∧ w = w' := by
  go_enter Try.func45, Try.ntmps45
  go_wp2_with fail
  go_loop [9] (fun j => ∃ k : Nat, k ≤ hs.length ∧ j = .int .i64 k ∧ (∀ m < k, stepH hs m = true)) (fun j => hs.length - (intOf j).toNat)
  case atStart =>
    exact ⟨0, by omega, rfl, fun m hm => absurd hm (by omega)⟩
  case round =>
    obtain ⟨k, hk, rfl, hall⟩ := hrel
    have HA := Lib.hid hall
    clear hall
    by_cases hlt : k < hs.length
    · obtain ⟨b, hb⟩ : ∃ b, hs[k]? = some b := ⟨_, List.getElem?_eq_getElem hlt⟩
      have c0 := ints_at hE hb
      have hi0 : (0 : Int) ≤ (k : Int) := by omega
      have hi1 : (k : Int) < (hs.length : Int) := by omega
      by_cases b0 : b < 0
      · have HR : Hid (homesOk hs most = false) := by
          show _ = _
          rw [homesOk, risOk_no hlt (by simp [stepH, hb]; omega)]; rfl
        have HB := Lib.hid hb
        clear hb
        go_wp2_with fail
        go_ret
        rw [HR.out]
        exact ⟨rfl, rfl⟩
      · by_cases b1 : 4096 ≤ b
        · have HR : Hid (homesOk hs most = false) := by
            show _ = _
            rw [homesOk, risOk_no hlt (by simp [stepH, hb]; omega)]; rfl
          have HB := Lib.hid hb
          clear hb
          go_wp2_with fail
          go_ret
          rw [HR.out]
          exact ⟨rfl, rfl⟩
        · rcases Nat.eq_zero_or_pos k with rfl | hpos
          · have HB := Lib.hid hb
            clear hb
            have c00 : w.cell? ⟨B, o, none⟩ = some (.int .i64 b) := c0
            go_wp2_with fail
            go_round
            case rel =>
              refine ⟨1, by omega, by go_num, fun m hm => ?_⟩
              obtain rfl : m = 0 := by omega
              have := HB.out
              simp [stepH, this]; omega
            case measure => simp [intOf]; omega
          · obtain ⟨k, rfl⟩ : ∃ k', k = k' + 1 := ⟨k - 1, by omega⟩
            obtain ⟨c, hc⟩ : ∃ c, hs[k]? = some c := ⟨_, List.getElem?_eq_getElem (by omega)⟩
            have d0 := ints_at hE hc
            have ek : (k : Int) + 1 - 1 = (k : Int) := by omega
            have hj0 : (0 : Int) ≤ (k : Int) + 1 := by omega
            have hj1 : (k : Int) + 1 < (hs.length : Int) := by omega
            have hj2 : (k : Int) < (hs.length : Int) := by omega
            have hst : stepH hs (k + 1) = decide (c < b) := by
              have g0 : 0 ≤ b := by omega
              have g1 : b < 4096 := by omega
              simp [stepH, hb, hc, g0, g1]
            have HS := Lib.hid hst
            have HB := Lib.hid hb
            have HC := Lib.hid hc
            clear hb hc hst
            by_cases g : b ≤ c
            · have HR : Hid (homesOk hs most = false) := by
                show _ = _
                rw [homesOk, risOk_no hlt (by rw [HS.out]; simp; omega)]; rfl
              go_wp2_with fail
              go_ret
              rw [HR.out]
              exact ⟨rfl, rfl⟩
            · go_wp2_with fail
              go_round
              case rel =>
                refine ⟨k + 2, by omega, by go_num, fun m hm => ?_⟩
                by_cases cc : m < k + 1
                · exact HA.out m cc
                · obtain rfl : m = k + 1 := by omega
                  rw [HS.out]; simp; omega
              case measure => simp [intOf]; omega
    · obtain rfl : k = hs.length := by omega
      have HR : Hid (homesOk hs most = (decide (1 ≤ hs.length) && decide ((hs.length : Int) ≤ most))) := by
        show _ = _
        rw [homesOk, risOk_yes HA.out]; rfl
      by_cases h1 : 1 ≤ hs.length
      · have h1' : (1 : Int) ≤ (hs.length : Int) := by omega
        go_wp2_with fail
        go_ret
        rw [HR.out]
        exact ⟨by simp [h1], rfl⟩
      · have h1' : (hs.length : Int) < 1 := by omega
        go_wp2_with fail
        go_ret
        rw [HR.out]
        refine ⟨by simp; omega, rfl⟩

theorem homes_none (a : Option Addr) (cap : Nat) (most : Int) (w : World) :
    Calls Try.prog 45 #[.slice a 0 cap, .int .i64 most] w fun e w' => e = .returned (.bool false) ∧ w = w' := by
  go_enter Try.func45, Try.ntmps45
  go_wp2_with fail
  refine wp_loop_rounds 1 ?_
  rw [rounds_succ]
  go_wp2_with fail
  go_ret
  exact ⟨rfl, rfl⟩

theorem homes_any {a : Option Addr} (cap : Nat) {hs : List Int} (most : Int) (w : World) (hn : hs.length ≤ 100000) (hE : ValS w a (hs.map (Value.int .i64))) :
    Calls Try.prog 45 #[.slice a hs.length cap, .int .i64 most] w fun e w' => e = .returned (.bool (homesOk hs most)) ∧ w = w' := by
  rcases hE with h | ⟨B, o, rfl, h⟩
  · have : hs = [] := by simpa using h
    subst this
    exact homes_none a cap most w
  · exact homes_some B o cap hs most w hn h

end Go.Proofs.Ytfgnemddamebaaa
