/- Walks: are two lists of ints the same? bytes alike. -/
import Derived.Test.YtfgnemddamebaaaSl
import Derived.Test.YtfgnemddamebaaaRows
import Derived.Test.YtfgnemddamebaaaAid
import Derived.WalkKit
import Derived.WalkSpells
import Derived.WalkLawsBesides
import Derived.Handy
import Derived.Lib.Hide
import Derived.BigQuiet
import Derived.Deep.QuietTactic
set_option linter.unusedVariables false
set_option linter.unusedSimpArgs false
set_option maxRecDepth 100000
namespace Go.Proofs.Ytfgnemddamebaaa
open Go.RowKit Go.Joins

theorem same_take {α : Type} [DecidableEq α] {a b : List α} {k : Nat} {x y : α} (hx : a[k]? = some x) (hy : b[k]? = some y) (h : a.take k = b.take k) : a.take (k + 1) = b.take (k + 1) ↔ x = y := by
  obtain ⟨h1, e1⟩ := List.getElem?_eq_some_iff.1 hx
  obtain ⟨h2, e2⟩ := List.getElem?_eq_some_iff.1 hy
  rw [List.take_succ_eq_append_getElem h1, List.take_succ_eq_append_getElem h2, h, e1, e2]
  simp
theorem ne_take {α : Type} {a b : List α} {k : Nat} (h : a.take k ≠ b.take k) : a ≠ b := fun e => h (by rw [e])

set_option maxHeartbeats 1000000 in
theorem sameints_eq (a b : Option Addr) (ca cb : Nat) (xs ys : List Int) (w : World) (hn : xs.length ≤ 1000000) (hA : ValS w a (xs.map (Value.int .i64))) (hB : ValS w b (ys.map (Value.int .i64))) :
    Calls Try.prog 33 #[.slice a xs.length ca, .slice b ys.length cb] w fun e w' => e = .returned (.bool (decide (xs = ys))) ∧ Below w.heap.size w w' := by
  by_cases hl : xs.length = ys.length
  · have hne : (((xs.length : Nat) : Int) != ((ys.length : Nat) : Int)) = false := by rw [bne_eq_false_iff_eq]; omega
    have HL := Lib.hid hl
    have HA := Lib.hid hA
    have HB := Lib.hid hB
    have hn2 : ys.length ≤ 1000000 := by omega
    have hl2 : (xs.length : Int) = (ys.length : Int) := by omega
    clear hl hA hB
    go_enter Try.func33, Try.ntmps33
    go_wp2_with fail
    clear hl2 hne
    go_loopw [5] (fun jj wr => ∃ k : Nat, k ≤ xs.length ∧ jj = .int .i64 k ∧ Hid (xs.take k = ys.take k) ∧ Below w.heap.size w wr) (fun jj _ => xs.length - (intOf jj).toNat)
    case atStart => exact ⟨0, by omega, rfl, by simp [Hid], Below.refl _ _⟩
    case round =>
      obtain ⟨k, hk, rfl, HT, B⟩ := hrel
      have hlen := HL.out
      by_cases hlt : k < xs.length
      · obtain ⟨x, hx⟩ : ∃ x, xs[k]? = some x := ⟨_, List.getElem?_eq_getElem hlt⟩
        obtain ⟨y, hy⟩ : ∃ y, ys[k]? = some y := ⟨_, List.getElem?_eq_getElem (by omega)⟩
        have hst := same_take hx hy HT.out
        have hA := HA.out.below B (Nat.le_refl _)
        have hB := HB.out.below B (Nat.le_refl _)
        rcases hA with hA | ⟨P, o, rfl, hA⟩
        · simp at hA; rw [hA] at hlt; simp at hlt
        rcases hB with hB | ⟨Q, p, rfl, hB⟩
        · simp at hB; rw [hB] at hlen; simp at hlen; rw [hlen] at hlt; simp at hlt
        have c1 : wr.cell? ⟨P, o + k, none⟩ = some (.int .i64 x) := hA.2 k _ (by simp [hx])
        have c2 : wr.cell? ⟨Q, p + k, none⟩ = some (.int .i64 y) := hB.2 k _ (by simp [hy])
        have i1 : (0 : Int) ≤ (k : Int) := by omega
        have i2 : (k : Int) < (xs.length : Int) := by omega
        have i3 : (k : Int) < (ys.length : Int) := by omega
        clear hA hB hx hy hlen
        by_cases hxy : x = y
        · have HT2 := Lib.hid (hst.2 hxy)
          have hb : (x != y) = false := by rw [bne_eq_false_iff_eq]; exact hxy
          clear hst hxy
          go_wp2_with fail
          go_quiet (fail)
          have B2 := below_drewN B nq
          clear c1 c2
          go_wp2_with fail
          go_roundw
          case rel => exact ⟨k + 1, by omega, by go_num, HT2, B2⟩
          case measure => simp [intOf]; omega
        · have HT2 := Lib.hid (ne_take (fun e => hxy (hst.1 e)))
          have hb : (x != y) = true := by rw [bne_iff_ne]; exact hxy
          clear hst hxy
          go_wp2_with fail
          go_quiet (fail)
          have B2 := below_drewN B nq
          clear c1 c2
          go_wp2_with fail
          go_ret
          exact ⟨by rw [decide_eq_false HT2.out]; rfl, B2⟩
      · have hE := Lib.hid (show xs = ys by
          have := HT.out
          rw [List.take_of_length_le (by omega), List.take_of_length_le (by omega)] at this
          exact this)
        clear hlen HT
        go_wp2_with fail
        go_ret
        exact ⟨by rw [decide_eq_true hE.out]; rfl, B⟩
  · have hne : (((xs.length : Nat) : Int) != ((ys.length : Nat) : Int)) = true := by rw [bne_iff_ne]; omega
    have HE := Lib.hid (show xs ≠ ys from fun e => hl (by rw [e]))
    clear hl hA hB
    go_enter Try.func33, Try.ntmps33
    go_wp2_with fail
    go_ret
    exact ⟨by rw [decide_eq_false HE.out]; rfl, Below.refl _ _⟩

end Go.Proofs.Ytfgnemddamebaaa
