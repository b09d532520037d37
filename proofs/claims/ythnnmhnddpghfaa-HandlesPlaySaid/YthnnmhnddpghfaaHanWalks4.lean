/- Walks: a table of descriptors: whether a node is open, whether it is full. -/
import Derived.Test.YthnnmhnddpghfaaHanWalks3
set_option linter.unusedVariables false
set_option linter.unusedSimpArgs false
set_option maxRecDepth 100000
namespace Go.Proofs.Ythnnmhnddpghfaa
open Go.RowKit Go.Joins

def fIdx (r : Option Nat) : Int := match r with | some k => (k : Int) | none => -1

set_option maxHeartbeats 1000000 in
theorem has_index (K : Nat) (m : Bool) (l : List Sl) (B : Nat) (node : Int) (w : World) (h : TabAt w K m l) (hc : w.cell? ⟨B, 0, none⟩ = some (.int .i64 node)) (hB : B < w.heap.size) :
    Calls Try.prog 34 #[.slice (some ⟨K, 1, none⟩) 16 16, .func (.func 29) #[] #[.pointer (some ⟨B, 0, none⟩)]] w fun e w' => e = .returned (.int .i64 (fIdx (l.findIdx? (hasP node)))) ∧ Below w.heap.size w w' := by
  have HH := Lib.hid h
  have HL := Lib.hid h.1
  have HC := Lib.hid hc
  clear h hc
  go_enter Try.func34, Try.ntmps34
  go_wp2_with fail
  go_loopw [5, 8] (fun _ jj wr => ∃ k : Nat, k ≤ 16 ∧ jj = .int .i64 k ∧ Hid (∀ j < k, ∃ s, l[j]? = some s ∧ (hasP node s) = false) ∧ Below w.heap.size w wr) (fun _ jj _ => 16 - (intOf jj).toNat)
  case atStart => exact ⟨0, by omega, rfl, fun j hj => by omega, Below.refl _ _⟩
  case round =>
    obtain ⟨k, hk, rfl, HA, Bw⟩ := hrel
    by_cases hlt : k < 16
    · obtain ⟨s, hs⟩ : ∃ s, l[k]? = some s := ⟨_, List.getElem?_eq_getElem (by rw [HL.out]; exact hlt)⟩
      obtain ⟨d0, d1, d2⟩ := (HH.out.below Bw (Nat.le_refl _)).at hs
      have HS := Lib.hid hs
      have h1 : (k : Int) < 16 := by omega
      have h2 : (0 : Int) ≤ (k : Int) := by omega
      have hc2 : wr.cell? ⟨B, 0, none⟩ = some (.int .i64 node) := by rw [Bw.cell (p := ⟨B, 0, none⟩) hB]; exact HC.out
      clear hs
      go_wp2_with fail
      refine (has1 B node s _ hc2).mono ?_
      rintro e w1 ⟨rfl, hb1⟩
      have B1 := below_chain Bw hb1 Bw.size
      clear d0 d1 d2
      cases hp : (hasP node s) with
      | true =>
        have HF : Hid (l.findIdx? (hasP node) = some k) := by
          show _ = _
          rw [List.findIdx?_eq_some_iff_getElem]
          refine ⟨by rw [HL.out]; exact hlt, ?_, fun j hj => ?_⟩
          · rw [(List.getElem_eq_iff _).2 HS.out]; exact hp
          · obtain ⟨s', h1', h2'⟩ := HA.out j hj
            rw [(List.getElem_eq_iff _).2 h1', h2']; simp
        have HP := Lib.hid hp
        go_wp2_with fail
        go_ret
        rw [HF.out]
        exact ⟨rfl, B1⟩
      | false =>
        have HA2 : Hid (∀ j < k + 1, ∃ s, l[j]? = some s ∧ (hasP node s) = false) := by
          intro j hj
          by_cases c : j < k
          · exact HA.out j c
          · obtain rfl : j = k := by omega
            exact ⟨s, HS.out, hp⟩
        go_wp2_with fail
        go_roundw
        case rel => exact ⟨k + 1, by omega, by go_num, HA2, B1⟩
        case measure => simp [intOf]; omega
    · have h1 : ¬ (k : Int) < 16 := by omega
      have HF : Hid (l.findIdx? (hasP node) = none) := by
        show _ = _
        rw [List.findIdx?_eq_none_iff]
        intro x hx
        obtain ⟨j, hj, rfl⟩ := List.getElem_of_mem hx
        obtain ⟨s', h1', h2'⟩ := HA.out j (by rw [HL.out] at hj; omega)
        rw [(List.getElem_eq_iff _).2 h1', h2']
      go_wp2_with fail
      go_ret
      rw [HF.out]
      exact ⟨rfl, Bw⟩

theorem has_contains (K : Nat) (m : Bool) (l : List Sl) (B : Nat) (node : Int) (w : World) (h : TabAt w K m l) (hc : w.cell? ⟨B, 0, none⟩ = some (.int .i64 node)) (hB : B < w.heap.size) :
    Calls Try.prog 28 #[.slice (some ⟨K, 1, none⟩) 16 16, .func (.func 29) #[] #[.pointer (some ⟨B, 0, none⟩)]] w fun e w' => e = .returned (.bool (l.any (hasP node))) ∧ Below w.heap.size w w' := by
  cases hf : l.findIdx? (hasP node) with
  | some k =>
    have HI := Lib.hid (show Calls Try.prog 34 #[.slice (some ⟨K, 1, none⟩) 16 16, .func (.func 29) #[] #[.pointer (some ⟨B, 0, none⟩)]] w fun e w' => e = .returned (.int .i64 (k : Int)) ∧ Below w.heap.size w w' from by
      have := has_index K m l B node w h hc hB; rw [hf] at this; exact this)
    have HR : Hid (l.any (hasP node) = true) := by
      show _ = _
      rw [List.findIdx?_eq_some_iff_getElem] at hf
      obtain ⟨hk, h1, _⟩ := hf
      rw [List.any_eq_true]
      exact ⟨_, List.getElem_mem hk, h1⟩
    have h0 : (0 : Int) ≤ (k : Int) := by omega
    clear hf h
    go_enter Try.func28, Try.ntmps28
    go_wp2_with fail
    refine HI.out.mono ?_
    rintro e w1 ⟨rfl, hb⟩
    go_wp2_with fail
    go_ret
    rw [HR.out]
    exact ⟨rfl, hb⟩
  | none =>
    have HI := Lib.hid (show Calls Try.prog 34 #[.slice (some ⟨K, 1, none⟩) 16 16, .func (.func 29) #[] #[.pointer (some ⟨B, 0, none⟩)]] w fun e w' => e = .returned (.int .i64 (-1)) ∧ Below w.heap.size w w' from by
      have := has_index K m l B node w h hc hB; rw [hf] at this; exact this)
    have HR : Hid (l.any (hasP node) = false) := by
      show _ = _
      rw [List.findIdx?_eq_none_iff] at hf
      rw [List.any_eq_false]
      intro x hx
      rw [hf x hx]; simp
    clear hf h
    go_enter Try.func28, Try.ntmps28
    go_wp2_with fail
    refine HI.out.mono ?_
    rintro e w1 ⟨rfl, hb⟩
    go_wp2_with fail
    go_ret
    rw [HR.out]
    exact ⟨rfl, hb⟩

set_option maxHeartbeats 1000000 in
theorem full_index (K : Nat) (m : Bool) (l : List Sl) (w : World) (h : TabAt w K m l) :
    Calls Try.prog 34 #[.slice (some ⟨K, 1, none⟩) 16 16, .func (.func 31) #[] #[]] w fun e w' => e = .returned (.int .i64 (fIdx (l.findIdx? freeP))) ∧ Below w.heap.size w w' := by
  have HH := Lib.hid h
  have HL := Lib.hid h.1
  clear h
  go_enter Try.func34, Try.ntmps34
  go_wp2_with fail
  go_loopw [5, 8] (fun _ jj wr => ∃ k : Nat, k ≤ 16 ∧ jj = .int .i64 k ∧ Hid (∀ j < k, ∃ s, l[j]? = some s ∧ (freeP s) = false) ∧ Below w.heap.size w wr) (fun _ jj _ => 16 - (intOf jj).toNat)
  case atStart => exact ⟨0, by omega, rfl, fun j hj => by omega, Below.refl _ _⟩
  case round =>
    obtain ⟨k, hk, rfl, HA, Bw⟩ := hrel
    by_cases hlt : k < 16
    · obtain ⟨s, hs⟩ : ∃ s, l[k]? = some s := ⟨_, List.getElem?_eq_getElem (by rw [HL.out]; exact hlt)⟩
      obtain ⟨d0, d1, d2⟩ := (HH.out.below Bw (Nat.le_refl _)).at hs
      have HS := Lib.hid hs
      have h1 : (k : Int) < 16 := by omega
      have h2 : (0 : Int) ≤ (k : Int) := by omega
      clear hs
      go_wp2_with fail
      refine (full1 s _).mono ?_
      rintro e w1 ⟨rfl, hb1⟩
      have B1 := below_chain Bw hb1 Bw.size
      clear d0 d1 d2
      cases hp : (freeP s) with
      | true =>
        have HF : Hid (l.findIdx? freeP = some k) := by
          show _ = _
          rw [List.findIdx?_eq_some_iff_getElem]
          refine ⟨by rw [HL.out]; exact hlt, ?_, fun j hj => ?_⟩
          · rw [(List.getElem_eq_iff _).2 HS.out]; exact hp
          · obtain ⟨s', h1', h2'⟩ := HA.out j hj
            rw [(List.getElem_eq_iff _).2 h1', h2']; simp
        have HP := Lib.hid hp
        go_wp2_with fail
        go_ret
        rw [HF.out]
        exact ⟨rfl, B1⟩
      | false =>
        have HA2 : Hid (∀ j < k + 1, ∃ s, l[j]? = some s ∧ (freeP s) = false) := by
          intro j hj
          by_cases c : j < k
          · exact HA.out j c
          · obtain rfl : j = k := by omega
            exact ⟨s, HS.out, hp⟩
        go_wp2_with fail
        go_roundw
        case rel => exact ⟨k + 1, by omega, by go_num, HA2, B1⟩
        case measure => simp [intOf]; omega
    · have h1 : ¬ (k : Int) < 16 := by omega
      have HF : Hid (l.findIdx? freeP = none) := by
        show _ = _
        rw [List.findIdx?_eq_none_iff]
        intro x hx
        obtain ⟨j, hj, rfl⟩ := List.getElem_of_mem hx
        obtain ⟨s', h1', h2'⟩ := HA.out j (by rw [HL.out] at hj; omega)
        rw [(List.getElem_eq_iff _).2 h1', h2']
      go_wp2_with fail
      go_ret
      rw [HF.out]
      exact ⟨rfl, Bw⟩

theorem full_contains (K : Nat) (m : Bool) (l : List Sl) (w : World) (h : TabAt w K m l) :
    Calls Try.prog 28 #[.slice (some ⟨K, 1, none⟩) 16 16, .func (.func 31) #[] #[]] w fun e w' => e = .returned (.bool (l.any freeP)) ∧ Below w.heap.size w w' := by
  cases hf : l.findIdx? freeP with
  | some k =>
    have HI := Lib.hid (show Calls Try.prog 34 #[.slice (some ⟨K, 1, none⟩) 16 16, .func (.func 31) #[] #[]] w fun e w' => e = .returned (.int .i64 (k : Int)) ∧ Below w.heap.size w w' from by
      have := full_index K m l w h; rw [hf] at this; exact this)
    have HR : Hid (l.any freeP = true) := by
      show _ = _
      rw [List.findIdx?_eq_some_iff_getElem] at hf
      obtain ⟨hk, h1, _⟩ := hf
      rw [List.any_eq_true]
      exact ⟨_, List.getElem_mem hk, h1⟩
    have h0 : (0 : Int) ≤ (k : Int) := by omega
    clear hf h
    go_enter Try.func28, Try.ntmps28
    go_wp2_with fail
    refine HI.out.mono ?_
    rintro e w1 ⟨rfl, hb⟩
    go_wp2_with fail
    go_ret
    rw [HR.out]
    exact ⟨rfl, hb⟩
  | none =>
    have HI := Lib.hid (show Calls Try.prog 34 #[.slice (some ⟨K, 1, none⟩) 16 16, .func (.func 31) #[] #[]] w fun e w' => e = .returned (.int .i64 (-1)) ∧ Below w.heap.size w w' from by
      have := full_index K m l w h; rw [hf] at this; exact this)
    have HR : Hid (l.any freeP = false) := by
      show _ = _
      rw [List.findIdx?_eq_none_iff] at hf
      rw [List.any_eq_false]
      intro x hx
      rw [hf x hx]; simp
    clear hf h
    go_enter Try.func28, Try.ntmps28
    go_wp2_with fail
    refine HI.out.mono ?_
    rintro e w1 ⟨rfl, hb⟩
    go_wp2_with fail
    go_ret
    rw [HR.out]
    exact ⟨rfl, hb⟩

/-- is a node open? -/
def tHas (l : List Sl) (node : Int) : Bool := l.any (hasP node)
def tFull (l : List Sl) : Bool := l.all fun s => s.o
theorem tFull_any (l : List Sl) : (!l.any freeP) = tFull l := by
  induction l with
  | nil => rfl
  | cons x r ih => rw [List.any_cons, Bool.not_or, ih, tFull, tFull, List.all_cons, freeP, Bool.not_not]

theorem hhas (K : Nat) (l : List Sl) (node : Int) (w : World) (h : TabAt w K true l) :
    Calls Try.prog 12 #[.pointer (some ⟨K, 0, none⟩), .int .i64 node] w fun e w' => e = .returned (.bool (tHas l node)) ∧ Below w.heap.size w w' := by
  have X : Below w.heap.size w (w.alloc (.cells #[.int .i64 node] 3)) := (Below.refl _ _).alloc (Nat.le_refl _) _
  have h2 := h.below X (Nat.le_refl _)
  have HN := Lib.hid (hnone_row K true _ h2.head)
  have HC := Lib.hid (has_contains K true l w.heap.size node _ h2 (by simp) (by simp))
  have hl := h.lt
  clear h h2
  go_enter Try.func12, Try.ntmps12
  go_wp2_with fail
  refine HN.out.mono ?_
  rintro e w1 ⟨rfl, rfl⟩
  go_wp2_with fail
  refine HC.out.mono ?_
  rintro e w1 ⟨rfl, hb⟩
  have B := X.trans (below_le hb (by simp))
  go_wp2_with fail
  go_ret
  exact ⟨rfl, B⟩

theorem hfull (K : Nat) (l : List Sl) (w : World) (h : TabAt w K true l) :
    Calls Try.prog 21 #[.pointer (some ⟨K, 0, none⟩)] w fun e w' => e = .returned (.bool (tFull l)) ∧ Below w.heap.size w w' := by
  have HN := Lib.hid (hnone_row K true _ h.head)
  have HC := Lib.hid (full_contains K true l _ h)
  have HT := Lib.hid (tFull_any l)
  have hl := h.lt
  clear h
  go_enter Try.func21, Try.ntmps21
  go_wp2_with fail
  refine HN.out.mono ?_
  rintro e w1 ⟨rfl, rfl⟩
  go_wp2_with fail
  refine HC.out.mono ?_
  rintro e w1 ⟨rfl, hb⟩
  go_wp2_with fail
  go_ret
  exact ⟨by rw [← HT.out]; rfl, hb⟩

/-- what Close answers, and leaves -/
def tClose (l : List Sl) (fd : Int) : List Sl × Int × Bool × Int := match slotOf l fd with
  | none => (l, 0, false, 220)
  | some s => (l.set fd.toNat Sl.none, s.n, !tHas (l.set fd.toNat Sl.none) s.n, 0)

set_option maxHeartbeats 1000000 in
theorem hclose (K : Nat) (l : List Sl) (fd : Int) (w : World) (h : TabAt w K true l) :
    Calls Try.prog 15 #[.pointer (some ⟨K, 0, none⟩), .int .i64 fd] w fun e w' => e = .returned (.tuple #[.int .i64 (tClose l fd).2.1, .bool (tClose l fd).2.2.1, .int .i64 (tClose l fd).2.2.2]) ∧ TabAt w' K true (tClose l fd).1 ∧ w.grownBy w' (some K) := by
  cases hs : slotOf l fd with
  | none =>
    have HF := Lib.hid (hfind_bad K l fd w h hs)
    have HT := Lib.hid (show tClose l fd = (l, 0, false, 220) from by rw [tClose, hs])
    have HH := Lib.hid h
    clear h hs
    go_enter Try.func15, Try.ntmps15
    go_wp2_with fail
    refine HF.out.mono ?_
    rintro e w1 ⟨rfl, rfl⟩
    go_wp2_with fail
    go_ret3
    rw [HT.out]
    exact ⟨rfl, HH.out, World.grownBy.refl _ _⟩
  | some s =>
    obtain ⟨h0, h1, h2, h3⟩ := slotOf_some hs
    obtain ⟨k, rfl⟩ := Int.eq_ofNat_of_zero_le h0
    rw [Int.toNat_natCast] at h2
    have HF := Lib.hid (hfind_ok K l k s w h h2 h3)
    obtain ⟨f0, f1, f2⟩ := h.free (show k < 16 by omega)
    obtain ⟨d0, d1, d2⟩ := h.at h2
    have hlt := h.lt
    have hP := h.put k Sl.none (by omega)
    have HP := Lib.hid hP
    have HHS := Lib.hid (hhas K (l.set k Sl.none) s.n _ hP)
    have HT := Lib.hid (show tClose l (k : Int) = (l.set k Sl.none, s.n, !tHas (l.set k Sl.none) s.n, 0) from by rw [tClose, hs]; rfl)
    clear h hs h2 h3 hP
    go_enter Try.func15, Try.ntmps15
    go_wp2_with fail
    refine HF.out.mono ?_
    rintro e w1 ⟨rfl, rfl⟩
    go_wp2_with fail
    refine HHS.out.mono ?_
    rintro e w1 ⟨rfl, hb⟩
    have HP2 := Lib.hid (HP.out.below hb (Nat.le_refl _))
    have HG : Hid (w.grownBy w1 (some K)) := by
      have g := grown_sets (w := w) (K := K) (1 + k * 3) (1 + k * 3 + 1) (1 + k * 3 + 2) (.bool Sl.none.o) (.int .i64 Sl.none.n) (.int .i64 Sl.none.a)
      exact ⟨hb.os.trans g.os, hb.tape.trans g.tape, hb.output.trans g.output, Nat.le_trans g.size hb.size, fun j hj hne => (hb.block j (by have := g.size; omega)).trans (g.block j hj hne)⟩
    clear hb
    go_wp2_with fail
    go_ret3
    rw [HT.out]
    exact ⟨rfl, HP2.out, HG.out⟩

end Go.Proofs.Ythnnmhnddpghfaa
