/- Walks: a table of descriptors: Get, Seek, whether a node is open, Close, Clone. -/
import Derived.Test.YthnnmhnddpghfaaHanWalks2
import Derived.Deep.QuietTactic
import Derived.BigQuiet
set_option linter.unusedVariables false
set_option linter.unusedSimpArgs false
set_option maxRecDepth 100000
namespace Go.Proofs.Ythnnmhnddpghfaa
open Go.RowKit Go.Joins

/-- a descriptor that is none -/
theorem hget_bad (K : Nat) (l : List Sl) (fd : Int) (w : World) (h : TabAt w K true l) (hs : slotOf l fd = none) :
    Calls Try.prog 11 #[.pointer (some ⟨K, 0, none⟩), .int .i64 fd] w fun e w' => e = .returned (.tuple #[.int .i64 0, .int .i64 0, .int .i64 220]) ∧ w = w' := by
  have HF := Lib.hid (hfind_bad K l fd w h hs)
  clear h hs
  go_enter Try.func11, Try.ntmps11
  go_wp2_with fail
  refine HF.out.mono ?_
  rintro e w1 ⟨rfl, rfl⟩
  go_wp2_with fail
  go_ret3
  exact ⟨rfl, rfl⟩

theorem hget_ok (K : Nat) (l : List Sl) (fd : Int) (s : Sl) (w : World) (h : TabAt w K true l) (hs : slotOf l fd = some s) :
    Calls Try.prog 11 #[.pointer (some ⟨K, 0, none⟩), .int .i64 fd] w fun e w' => e = .returned (.tuple #[.int .i64 s.n, .int .i64 s.a, .int .i64 0]) ∧ Below w.heap.size w w' := by
  obtain ⟨h0, h1, h2, h3⟩ := slotOf_some hs
  obtain ⟨k, rfl⟩ := Int.eq_ofNat_of_zero_le h0
  rw [Int.toNat_natCast] at h2
  have HF := Lib.hid (hfind_ok K l k s w h h2 h3)
  obtain ⟨d0, d1, d2⟩ := h.at h2
  clear h hs h2 h3 d0
  go_enter Try.func11, Try.ntmps11
  go_wp2_with fail
  refine HF.out.mono ?_
  rintro e w1 ⟨rfl, rfl⟩
  go_wp2_with fail
  go_quiet (fail)
  go_wp2_with fail
  go_ret3
  exact ⟨rfl, below_drewN (Below.refl _ _) nq⟩

/-- what Seek answers, and leaves -/
def tSeek (l : List Sl) (fd at_ : Int) : List Sl × Int := match slotOf l fd with
  | none => (l, 220)
  | some s => if at_ < 0 ∨ 262144 < at_ then (l, 216) else (l.set fd.toNat ⟨s.o, s.n, at_⟩, 0)

theorem set_one (w : World) (K : Nat) (l : List Sl) (k : Nat) (s : Sl) (z : Int) (h : TabAt w K true l) (hs : l[k]? = some s) : TabAt (w.setCell ⟨K, 1 + k * 3 + 2, none⟩ (.int .i64 z)) K true (l.set k ⟨s.o, s.n, z⟩) := by
  have hk := (List.getElem?_eq_some_iff.1 hs).1
  refine ⟨by rw [List.length_set]; exact h.1, ?_⟩
  have e := tcell_set true l k ⟨s.o, s.n, z⟩ hk
  obtain ⟨a, b, c⟩ := tcell_get (m := true) hs
  have e0 : (tcells true l).set (1 + k * 3) (.bool s.o) = tcells true l := by
    obtain ⟨hl, q⟩ := List.getElem?_eq_some_iff.1 a
    rw [← q]; exact List.set_getElem_self hl
  have e1 : (tcells true l).set (1 + k * 3 + 1) (.int .i64 s.n) = tcells true l := by
    obtain ⟨hl, q⟩ := List.getElem?_eq_some_iff.1 b
    rw [← q]; exact List.set_getElem_self hl
  simp only at e
  rw [e0, e1] at e
  rw [← e]
  exact h.2.set _ _

theorem hseek (K : Nat) (l : List Sl) (fd at_ : Int) (w : World) (h : TabAt w K true l) :
    Calls Try.prog 17 #[.pointer (some ⟨K, 0, none⟩), .int .i64 fd, .int .i64 at_] w fun e w' => e = .returned (.int .i64 (tSeek l fd at_).2) ∧ TabAt w' K true (tSeek l fd at_).1 ∧ w.grownBy w' (some K) := by
  cases hs : slotOf l fd with
  | none =>
    have HF := Lib.hid (hfind_bad K l fd w h hs)
    have HT := Lib.hid (show tSeek l fd at_ = (l, 220) from by rw [tSeek, hs])
    have HH := Lib.hid h
    clear h hs
    go_enter Try.func17, Try.ntmps17
    go_wp2_with fail
    refine HF.out.mono ?_
    rintro e w1 ⟨rfl, rfl⟩
    go_wp2_with fail
    go_ret
    rw [HT.out]
    exact ⟨rfl, HH.out, World.grownBy.refl _ _⟩
  | some s =>
    obtain ⟨h0, h1, h2, h3⟩ := slotOf_some hs
    obtain ⟨k, rfl⟩ := Int.eq_ofNat_of_zero_le h0
    rw [Int.toNat_natCast] at h2
    have HF := Lib.hid (hfind_ok K l k s w h h2 h3)
    have HH := Lib.hid h
    obtain ⟨f0, f1, f2⟩ := h.free (show k < 16 by omega)
    obtain ⟨d0, d1, d2⟩ := h.at h2
    have hlt := h.lt
    have HP := Lib.hid (set_one w K l k s at_ h h2)
    by_cases c : at_ < 0
    · have HT := Lib.hid (show tSeek l (k : Int) at_ = (l, 216) from by rw [tSeek, hs]; exact if_pos (.inl c))
      clear h hs h2 h3 d0 d1
      go_enter Try.func17, Try.ntmps17
      go_wp2_with fail
      refine HF.out.mono ?_
      rintro e w1 ⟨rfl, rfl⟩
      go_wp2_with fail
      go_ret
      rw [HT.out]
      exact ⟨rfl, HH.out, World.grownBy.refl _ _⟩
    · by_cases c2 : 262144 < at_
      · have HT := Lib.hid (show tSeek l (k : Int) at_ = (l, 216) from by rw [tSeek, hs]; exact if_pos (.inr c2))
        clear h hs h2 h3 d0 d1
        go_enter Try.func17, Try.ntmps17
        go_wp2_with fail
        refine HF.out.mono ?_
        rintro e w1 ⟨rfl, rfl⟩
        go_wp2_with fail
        go_ret
        rw [HT.out]
        exact ⟨rfl, HH.out, World.grownBy.refl _ _⟩
      · have HT := Lib.hid (show tSeek l (k : Int) at_ = (l.set k ⟨s.o, s.n, at_⟩, 0) from by rw [tSeek, hs]; exact if_neg (by omega))
        clear h hs h2 h3 d0 d1
        go_enter Try.func17, Try.ntmps17
        go_wp2_with fail
        refine HF.out.mono ?_
        rintro e w1 ⟨rfl, rfl⟩
        go_wp2_with fail
        go_ret
        rw [HT.out]
        exact ⟨rfl, HP.out, grown_set (World.grownBy.refl _ _) _ _⟩

/-! ### whether a node is open -/

def hasP (node : Int) (s : Sl) : Bool := s.o && s.n == node
def freeP (s : Sl) : Bool := !s.o

theorem has1 (K : Nat) (node : Int) (s : Sl) (w : World) (hc : w.cell? ⟨K, 0, none⟩ = some (.int .i64 node)) :
    Calls Try.prog 29 #[.agg #[.bool s.o, .int .i64 s.n, .int .i64 s.a], .pointer (some ⟨K, 0, none⟩)] w fun e w' => e = .returned (.bool (hasP node s)) ∧ Below w.heap.size w w' := by
  obtain ⟨o, n, a⟩ := s
  have hl : K < w.heap.size := by
    rcases Nat.lt_or_ge K w.heap.size with h' | h'
    · exact h'
    · simp [World.cell?, Array.getElem?_eq_none h'] at hc
  cases o with
  | true =>
    go_enter Try.func29, Try.ntmps29
    go_wp2
    go_ret
    exact ⟨rfl, (Below.refl _ _).alloc (Nat.le_refl _) _⟩
  | false =>
    go_enter Try.func29, Try.ntmps29
    go_wp2
    go_ret
    exact ⟨rfl, (Below.refl _ _).alloc (Nat.le_refl _) _⟩

theorem full1 (s : Sl) (w : World) :
    Calls Try.prog 31 #[.agg #[.bool s.o, .int .i64 s.n, .int .i64 s.a]] w fun e w' => e = .returned (.bool (freeP s)) ∧ Below w.heap.size w w' := by
  go_enter Try.func31, Try.ntmps31
  go_wp2
  go_ret
  exact ⟨rfl, (Below.refl _ _).alloc (Nat.le_refl _) _⟩

end Go.Proofs.Ythnnmhnddpghfaa
