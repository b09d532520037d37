/- Walks: are two records the same? bytes alike. -/
import Derived.Test.YtfgnemddamebaaaSameInts
import Derived.Test.YtfgnemddamebaaaRecWalks3
import Derived.Deep.RegionHeld3
set_option linter.unusedVariables false
set_option linter.unusedSimpArgs false
set_option maxRecDepth 100000
namespace Go.Proofs.Ytfgnemddamebaaa
open Go.RowKit Go.Joins

set_option maxHeartbeats 2000000 in
theorem same8_yes (x : Rc) (ah bh : Option Addr) (ch dh : Nat) (am bm : Option Addr) (cm dm : Nat) (w : World) (hn : x.hs.length ≤ 100000) (hm : x.ms.length ≤ 100000) (hA : RcS w x ah am) (hB : RcS w x bh bm) :
    Calls Try.prog 13 #[rcV x ah ch am cm, rcV x bh dh bm dm] w fun e w' => e = .returned (.bool true) ∧ Below w.heap.size w w' := by
  obtain ⟨k, q, t, hs, ms, u⟩ := x
  obtain ⟨hA1, hA2⟩ := hA
  obtain ⟨hB1, hB2⟩ := hB
  simp only at hn hm hA1 hA2 hB1 hB2
  have HI := Lib.hid (fun W (hb : Below w.heap.size w W) => by have := sameints_eq ah bh ch dh hs hs W (by omega) (hA1.below hb (Nat.le_refl _)) (hB1.below hb (Nat.le_refl _)); simpa using this : ∀ W, Below w.heap.size w W → Calls Try.prog 33 #[.slice ah hs.length ch, .slice bh hs.length dh] W fun e w' => e = .returned (.bool true) ∧ Below W.heap.size W w')
  have HA := Lib.hid hA2
  have HB := Lib.hid hB2
  clear hA1 hA2 hB1 hB2
  have b1 : (k != k) = false := by simp
  have b2 : (q != q) = false := by simp
  have b3 : (t != t) = false := by simp
  have b4 : (u != u) = false := by simp
  have b5 : (((ms.length : Nat) : Int) != ((ms.length : Nat) : Int)) = false := by simp
  have z0 := rowAt_alloc w (rcells k q t ah hs.length ch am ms.length cm u) 27
  have z1 := rowAt_alloc (w.alloc (.cells (rcells k q t ah hs.length ch am ms.length cm u) 27)) (rcells k q t bh hs.length dh bm ms.length dm u) 27
  have y0 := z0.alloc (.cells (rcells k q t bh hs.length dh bm ms.length dm u) 27)
  rw [World.size_alloc] at z1
  have Y : Below w.heap.size w ((w.alloc (.cells (rcells k q t ah hs.length ch am ms.length cm u) 27)).alloc (.cells (rcells k q t bh hs.length dh bm ms.length dm u) 27)) := by go_grown
  clear z0
  go_enter Try.func13, Try.ntmps13
  go_wp2_with fail
  refine (HI.out _ Y).mono ?_
  rintro e w3 ⟨rfl, hb3⟩
  have x3 := y0.below hb3 y0.lt
  have v3 := z1.below hb3 z1.lt
  have B3 := below_chain Y hb3 Y.size
  clear z1 y0 Y hb3
  have c4 := x3.cell 4 (by simp)
  have d4 := v3.cell 4 (by simp)
  have L0 := x3.lt
  have L1 := v3.lt
  go_wp2_with fail
  clear b1 b2 b3 b4 b5 c4 d4 HI
  go_loopw [5] (fun jj wr => ∃ j : Nat, j ≤ ms.length ∧ jj = .int .i64 j ∧ RowAt wr w.heap.size [.int .i64 k, .int .u64 q, .int .i64 t, .slice ah hs.length ch, .slice am ms.length cm, .int .u32 u] ∧ RowAt wr (w.heap.size + 1) [.int .i64 k, .int .u64 q, .int .i64 t, .slice bh hs.length dh, .slice bm ms.length dm, .int .u32 u] ∧ Below w.heap.size w wr) (fun jj _ => ms.length - (intOf jj).toNat)
  case atStart => exact ⟨0, by omega, rfl, x3, v3, B3⟩
  case round =>
    clear x3 v3 B3 L0 L1
    obtain ⟨j, hj, rfl, x3, v3, B3⟩ := hrel
    have c4 := x3.cell 4 (by simp)
    have d4 := v3.cell 4 (by simp)
    have L0 := x3.lt
    have L1 := v3.lt
    by_cases hlt : j < ms.length
    · obtain ⟨b, hb⟩ : ∃ b, ms[j]? = some b := ⟨_, List.getElem?_eq_getElem hlt⟩
      have hA := HA.out.below B3 (Nat.le_refl _)
      have hB := HB.out.below B3 (Nat.le_refl _)
      rcases hA with hA | ⟨P, o, rfl, hA⟩
      · simp at hA; rw [hA] at hlt; simp at hlt
      rcases hB with hB | ⟨Q, p, rfl, hB⟩
      · simp at hB; rw [hB] at hlt; simp at hlt
      have c1 : wr.cell? ⟨P, o + j, none⟩ = some (.bool b) := hA.2 j _ (by simp [hb])
      have c2 : wr.cell? ⟨Q, p + j, none⟩ = some (.bool b) := hB.2 j _ (by simp [hb])
      have i1 : (0 : Int) ≤ (j : Int) := by omega
      have i2 : (j : Int) < (ms.length : Int) := by omega
      clear hA hB hb
      cases b <;>
      · go_wp2_with fail
        go_quiet (fail)
        have B4 := below_drewN B3 nq
        have x4 := x3.below (below_drewN (Below.refl _ _) nq) L0
        have v4 := v3.below (below_drewN (Below.refl _ _) nq) L1
        clear c1 c2 c4 d4 x3 v3 B3
        go_wp2_with fail
        go_roundw
        case rel => exact ⟨j + 1, by omega, by go_num, x4, v4, B4⟩
        case measure => simp [intOf]; omega
    · have h1 : ¬ (j : Int) < (ms.length : Int) := by omega
      go_wp2_with fail
      go_ret
      exact ⟨rfl, B3⟩

end Go.Proofs.Ytfgnemddamebaaa
