/- Walks: a table of descriptors: New, Open, Get, Seek. -/
import Derived.Test.YthnnmhnddpghfaaHanWalks
set_option linter.unusedVariables false
set_option linter.unusedSimpArgs false
set_option maxRecDepth 100000
namespace Go.Proofs.Ythnnmhnddpghfaa
open Go.RowKit Go.Joins

def zeroT : List Sl := List.replicate 16 Sl.none
theorem zeroT_cells (m : Bool) : tcells m zeroT = #[.bool m, .bool false, .int .i64 0, .int .i64 0, .bool false, .int .i64 0, .int .i64 0, .bool false, .int .i64 0, .int .i64 0, .bool false, .int .i64 0, .int .i64 0, .bool false, .int .i64 0, .int .i64 0, .bool false, .int .i64 0, .int .i64 0, .bool false, .int .i64 0, .int .i64 0, .bool false, .int .i64 0, .int .i64 0, .bool false, .int .i64 0, .int .i64 0, .bool false, .int .i64 0, .int .i64 0, .bool false, .int .i64 0, .int .i64 0, .bool false, .int .i64 0, .int .i64 0, .bool false, .int .i64 0, .int .i64 0, .bool false, .int .i64 0, .int .i64 0, .bool false, .int .i64 0, .int .i64 0, .bool false, .int .i64 0, .int .i64 0].toList := rfl

theorem hnew (w : World) : Calls Try.prog 9 #[] w fun e w' => e = .returned (.pointer (some ⟨w.heap.size, 0, none⟩)) ∧ TabAt w' w.heap.size true zeroT ∧ Below w.heap.size w w' := by
  have z := rowAt_alloc w (tcells true zeroT).toArray 54
  go_enter Try.func9, Try.ntmps9
  go_wp2
  go_ret
  exact ⟨rfl, ⟨rfl, z⟩, (Below.refl _ _).alloc (Nat.le_refl _) _⟩

/-- what Open answers, and leaves -/
def tOpen (l : List Sl) (node : Int) : List Sl × Int × Int :=
  if node < 0 then (l, 0, 2) else match firstFree l with
  | some k => (l.set k ⟨true, node, 0⟩, (k : Int), 0)
  | none => (l, 0, 221)

theorem grown_set {w w1 : World} {K : Nat} (hb : w.grownBy w1 (some K)) (o : Nat) (v : Value) : w.grownBy (w1.setCell ⟨K, o, none⟩ v) (some K) :=
  ⟨hb.os, hb.tape, hb.output, by have := hb.size; simpa using this, fun k hk hne => by rw [Below.heap_setCell _ _ _ _ (fun e => hne (by rw [e]))]; exact hb.block k hk hne⟩
theorem grown_sets {w : World} {K : Nat} (o1 o2 o3 : Nat) (v1 v2 v3 : Value) : w.grownBy (((w.setCell ⟨K, o1, none⟩ v1).setCell ⟨K, o2, none⟩ v2).setCell ⟨K, o3, none⟩ v3) (some K) :=
  grown_set (grown_set (grown_set (World.grownBy.refl _ _) _ _) _ _) _ _

set_option maxHeartbeats 1000000 in
theorem hopen (K : Nat) (l : List Sl) (node : Int) (w : World) (h : TabAt w K true l) :
    Calls Try.prog 13 #[.pointer (some ⟨K, 0, none⟩), .int .i64 node] w fun e w' => e = .returned (.tuple #[.int .i64 (tOpen l node).2.1, .int .i64 (tOpen l node).2.2]) ∧ TabAt w' K true (tOpen l node).1 ∧ w.grownBy w' (some K) := by
  have HN := Lib.hid (hnone_row K true w h.head)
  by_cases hneg : node < 0
  · have HT := Lib.hid (show tOpen l node = (l, 0, 2) from if_pos hneg)
    go_enter Try.func13, Try.ntmps13
    go_wp2_with fail
    refine HN.out.mono ?_
    rintro e w1 ⟨rfl, rfl⟩
    go_wp2_with fail
    go_ret2
    rw [HT.out]
    exact ⟨rfl, h, World.grownBy.refl _ _⟩
  · have HNG := Lib.hid hneg
    have HH := Lib.hid h
    have hlen := h.1
    have HL := Lib.hid hlen
    clear h hlen
    go_enter Try.func13, Try.ntmps13
    go_wp2_with fail
    refine HN.out.mono ?_
    rintro e w1 ⟨rfl, rfl⟩
    go_wp2_with fail
    go_loop [6, 13] (fun _ jj => ∃ k : Nat, k ≤ 16 ∧ jj = .int .i64 k ∧ Hid (∀ j < k, ∃ s, l[j]? = some s ∧ s.o = true)) (fun _ jj => 16 - (intOf jj).toNat)
    case atStart => exact ⟨0, by omega, rfl, fun j hj => by omega⟩
    case round =>
      obtain ⟨k, hk, rfl, HA⟩ := hrel
      by_cases hlt : k < 16
      · obtain ⟨s, hs⟩ : ∃ s, l[k]? = some s := ⟨_, List.getElem?_eq_getElem (by rw [HL.out]; exact hlt)⟩
        obtain ⟨d0, d1, d2⟩ := HH.out.at hs
        obtain ⟨f0, f1, f2⟩ := HH.out.free hlt
        have h1 : (k : Int) < 16 := by omega
        have h2 : (0 : Int) ≤ (k : Int) := by omega
        cases ho : s.o with
        | true =>
          rw [ho] at d0
          have HA2 : Hid (∀ j < k + 1, ∃ s, l[j]? = some s ∧ s.o = true) := by
            intro j hj
            by_cases c : j < k
            · exact HA.out j c
            · obtain rfl : j = k := by omega
              exact ⟨s, hs, ho⟩
          clear hs ho d1 d2 f0 f1 f2
          go_wp2_with fail
          go_round
          case rel => exact ⟨k + 1, by omega, by go_num, HA2⟩
          case measure => simp [intOf]; omega
        | false =>
          rw [ho] at d0
          have HF : Hid (firstFree l = some k) := by
            show _ = _
            rw [firstFree, List.findIdx?_eq_some_iff_getElem]
            refine ⟨by rw [HL.out]; exact hlt, ?_, fun j hj => ?_⟩
            · rw [(List.getElem_eq_iff _).2 hs, ho]; rfl
            · obtain ⟨s', h1', h2'⟩ := HA.out j hj
              rw [(List.getElem_eq_iff _).2 h1', h2']; simp
          have HT := Lib.hid (show tOpen l node = (l.set k ⟨true, node, 0⟩, (k : Int), 0) from by rw [tOpen, if_neg (by have := HNG.out; omega), HF.out])
          have HP := Lib.hid (HH.out.put k ⟨true, node, 0⟩ hlt)
          have hlt2 := HH.out.lt
          clear hs ho
          go_wp2_with fail
          go_ret2
          rw [HT.out]
          exact ⟨rfl, HP.out, grown_sets _ _ _ _ _ _⟩
      · have h1 : ¬ (k : Int) < 16 := by omega
        have HF : Hid (firstFree l = none) := by
          show _ = _
          rw [firstFree, List.findIdx?_eq_none_iff]
          intro x hx
          obtain ⟨j, hj, rfl⟩ := List.getElem_of_mem hx
          obtain ⟨s', h1', h2'⟩ := HA.out j (by rw [HL.out] at hj; omega)
          rw [(List.getElem_eq_iff _).2 h1', h2']; rfl
        have HT := Lib.hid (show tOpen l node = (l, 0, 221) from by rw [tOpen, if_neg (by have := HNG.out; omega), HF.out])
        go_wp2_with fail
        go_ret2
        rw [HT.out]
        exact ⟨rfl, HH.out, World.grownBy.refl _ _⟩

end Go.Proofs.Ythnnmhnddpghfaa
