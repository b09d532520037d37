/- A part of a proof. -/
import Derived.Test.YtppdihpobokfnaaGreatDoorGBase
import Derived.Test.YtppdihpobokfnaaGreatDoorRows
import Derived.WalkLawsBesides
import Derived.Handy
import Derived.BigQuiet
import Derived.Deep.QuietTactic
import Derived.Lib.SlicesCompact
import Derived.Test.YtppdihpobokfnaaGreatDoorShelf2
import Derived.Deep.MidRow
import Derived.Sort.OwnSortedInts
import Derived.Lib.RowBridge
import Derived.Deep.WholeRow
set_option linter.unusedVariables false
set_option linter.unusedSimpArgs false
set_option maxRecDepth 100000
namespace Go.Proofs.YtppdihpobokfnaaGreatDoor
open Go.RowKit Go.Joins
def TabAt (w : World) (K : Nat) (m : Bool) (l : List Sl) : Prop := l.length = 16 ∧ RowAt w K (tcells m l)
theorem TabAt.lt {w : World} {K : Nat} {m : Bool} {l : List Sl} (h : TabAt w K m l) : K < w.heap.size := h.2.lt
theorem TabAt.head {w : World} {K : Nat} {m : Bool} {l : List Sl} (h : TabAt w K m l) : w.cell? ⟨K, 0, none⟩ = some (.bool m) := h.2.cell 0 (by rw [tcells_len]; omega)
theorem TabAt.at {w : World} {K : Nat} {m : Bool} {l : List Sl} (h : TabAt w K m l) {k : Nat} {s : Sl} (hs : l[k]? = some s) : w.cell? ⟨K, 1 + k * 3, none⟩ = some (.bool s.o) ∧ w.cell? ⟨K, 1 + k * 3 + 1, none⟩ = some (.int .i64 s.n) ∧ w.cell? ⟨K, 1 + k * 3 + 2, none⟩ = some (.int .i64 s.a) := by
 have hk := (List.getElem?_eq_some_iff.1 hs).1
 obtain ⟨a, b, c⟩ := tcell_get (m := m) hs
 exact ⟨(h.2.cell _ (by rw [tcells_len]; omega)).trans a, (h.2.cell _ (by rw [tcells_len]; omega)).trans b, (h.2.cell _ (by rw [tcells_len]; omega)).trans c⟩
theorem TabAt.free {w : World} {K : Nat} {m : Bool} {l : List Sl} (h : TabAt w K m l) {k : Nat} (hk : k < 16) : w.frozen? ⟨K, 1 + k * 3, none⟩ = false ∧ w.frozen? ⟨K, 1 + k * 3 + 1, none⟩ = false ∧ w.frozen? ⟨K, 1 + k * 3 + 2, none⟩ = false := by
 have hl := h.1
 exact ⟨h.2.frozen _ (by rw [tcells_len]; omega), h.2.frozen _ (by rw [tcells_len]; omega), h.2.frozen _ (by rw [tcells_len]; omega)⟩
theorem TabAt.below {w w' : World} {K B : Nat} {m : Bool} {l : List Sl} (h : TabAt w K m l) (hb : Below B w w') (hB : w.heap.size ≤ B) : TabAt w' K m l := ⟨h.1, h.2.below hb (by have := h.lt; omega)⟩
theorem TabAt.put {w : World} {K : Nat} {m : Bool} {l : List Sl} (h : TabAt w K m l) (k : Nat) (s : Sl) (hk : k < 16) : TabAt (((w.setCell ⟨K, 1 + k * 3, none⟩ (.bool s.o)).setCell ⟨K, 1 + k * 3 + 1, none⟩ (.int .i64 s.n)).setCell ⟨K, 1 + k * 3 + 2, none⟩ (.int .i64 s.a)) K m (l.set k s) := by
 refine ⟨by rw [List.length_set]; exact h.1, ?_⟩
 rw [← tcell_set m l k s (by rw [h.1]; exact hk)]
 exact ((h.2.set _ _).set _ _).set _ _
theorem hnone_row (K : Nat) (m : Bool) (w : World) (hc : w.cell? ⟨K, 0, none⟩ = some (.bool m)) : Calls Tryz.prog 117 #[.pointer (some ⟨K, 0, none⟩)] w fun e w' => e = .returned (.bool !m) ∧ w = w' := by
 go_enter Tryz.func117, Tryz.ntmps117
 go_wp2
 go_ret
 exact ⟨rfl, rfl⟩
theorem hfind_none (K : Nat) (p : Option Addr) (fd : Int) (w : World) (HN : Hid (∀ W, W = w → Calls Tryz.prog 117 #[.pointer p] W fun e w' => e = .returned (.bool true) ∧ W = w')) :
  Calls Tryz.prog 105 #[.pointer p, .int .i64 fd] w fun e w' => e = .returned (.tuple #[.pointer none, .int .i64 1]) ∧ w = w' := by
 go_enter Tryz.func105, Tryz.ntmps105
 go_wp2_with fail
 refine (HN.out _ rfl).mono ?_
 rintro e w1 ⟨rfl, rfl⟩
 go_wp2_with fail
 go_ret2
 exact ⟨rfl, rfl⟩
theorem hfind_bad (K : Nat) (l : List Sl) (fd : Int) (w : World) (h : TabAt w K true l) (hs : slotOf l fd = none) :
  Calls Tryz.prog 105 #[.pointer (some ⟨K, 0, none⟩), .int .i64 fd] w fun e w' => e = .returned (.tuple #[.pointer none, .int .i64 220]) ∧ w = w' := by
 have HN := Lh (hnone_row K true w h.head)
 rcases slotOf_none h.1 hs with c | c | ⟨c1, c2, s, c3, c4⟩
 · clear hs
   go_enter Tryz.func105, Tryz.ntmps105
   go_wp2_with fail
   refine HN.out.mono ?_
   rintro e w1 ⟨rfl, rfl⟩
   go_wp2_with fail
   go_ret2
   exact ⟨rfl, rfl⟩
 · clear hs
   have c' : ¬ fd < 0 := by omega
   go_enter Tryz.func105, Tryz.ntmps105
   go_wp2_with fail
   refine HN.out.mono ?_
   rintro e w1 ⟨rfl, rfl⟩
   go_wp2_with fail
   go_ret2
   exact ⟨rfl, rfl⟩
 · obtain ⟨k, rfl⟩ := Int.eq_ofNat_of_zero_le c1
   rw [Int.toNat_natCast] at c3
   obtain ⟨d0, d1, d2⟩ := h.at c3
   rw [c4] at d0
   have hc1 : ¬ (k : Int) < 0 := by omega
   have hc2 : ¬ (16 : Int) ≤ (k : Int) := by omega
   clear hs d1 d2 c3
   go_enter Tryz.func105, Tryz.ntmps105
   go_wp2_with fail
   refine HN.out.mono ?_
   rintro e w1 ⟨rfl, rfl⟩
   go_wp2_with fail
   go_ret2
   exact ⟨rfl, rfl⟩
theorem hfind_ok (K : Nat) (l : List Sl) (k : Nat) (s : Sl) (w : World) (h : TabAt w K true l) (hs : l[k]? = some s) (ho : s.o = true) :
  Calls Tryz.prog 105 #[.pointer (some ⟨K, 0, none⟩), .int .i64 k] w fun e w' => e = .returned (.tuple #[.pointer (some ⟨K, 1 + k * 3, none⟩), .int .i64 0]) ∧ w = w' := by
 have HN := Lh (hnone_row K true w h.head)
 obtain ⟨d0, d1, d2⟩ := h.at hs
 rw [ho] at d0
 have hk := (List.getElem?_eq_some_iff.1 hs).1
 rw [h.1] at hk
 have hc1 : ¬ (k : Int) < 0 := by omega
 have hc2 : ¬ (16 : Int) ≤ (k : Int) := by omega
 have hc3 : (0 : Int) ≤ (k : Int) := by omega
 have hc4 : (k : Int) < 16 := by omega
 clear d1 d2 hs
 go_enter Tryz.func105, Tryz.ntmps105
 go_wp2_with fail
 refine HN.out.mono ?_
 rintro e w1 ⟨rfl, rfl⟩
 go_wp2_with fail
 go_ret2
 exact ⟨rfl, rfl⟩
end Go.Proofs.YtppdihpobokfnaaGreatDoor
set_option linter.unusedVariables false
set_option linter.unusedSimpArgs false
set_option maxRecDepth 100000
namespace Go.Proofs.YtppdihpobokfnaaGreatDoor
open Go.RowKit Go.Joins
def zeroT : List Sl := List.replicate 16 Sl.none
theorem hnew (w : World) : Calls Tryz.prog 56 #[] w fun e w' => e = .returned (.pointer (some ⟨w.heap.size, 0, none⟩)) ∧ TabAt w' w.heap.size true zeroT ∧ Below w.heap.size w w' := by
 have z := rowAt_alloc w (tcells true zeroT).toArray 138
 go_enter Tryz.func56, Tryz.ntmps56
 go_wp2
 go_ret
 exact ⟨rfl, ⟨rfl, z⟩, (Below.refl _ _).alloc (Nat.le_refl _) _⟩
def tOpen (l : List Sl) (node : Int) : List Sl × Int × Int :=
 if node < 0 then (l, 0, 2) else match firstFree l with
 | some k => (l.set k ⟨true, node, 0⟩, (k : Int), 0)
 | none => (l, 0, 221)
theorem grown_set {w w1 : World} {K : Nat} (hb : w.grownBy w1 (some K)) (o : Nat) (v : Value) : w.grownBy (w1.setCell ⟨K, o, none⟩ v) (some K) :=
 ⟨hb.os, hb.tape, hb.output, by have := hb.size; simpa using this, fun k hk hne => by rw [Below.heap_setCell _ _ _ _ (fun e => hne (by rw [e]))]; exact hb.block k hk hne⟩
theorem grown_sets {w : World} {K : Nat} (o1 o2 o3 : Nat) (v1 v2 v3 : Value) : w.grownBy (((w.setCell ⟨K, o1, none⟩ v1).setCell ⟨K, o2, none⟩ v2).setCell ⟨K, o3, none⟩ v3) (some K) :=
 grown_set (grown_set (grown_set (World.grownBy.refl _ _) _ _) _ _) _ _
set_option maxHeartbeats 1000000 in
theorem hopen (K : Nat) (l : List Sl) (node : Int) (w : World) (h : TabAt w K true l) :
  Calls Tryz.prog 92 #[.pointer (some ⟨K, 0, none⟩), .int .i64 node] w fun e w' => e = .returned (.tuple #[.int .i64 (tOpen l node).2.1, .int .i64 (tOpen l node).2.2]) ∧ TabAt w' K true (tOpen l node).1 ∧ w.grownBy w' (some K) := by
 have HN := Lh (hnone_row K true w h.head)
 by_cases hneg : node < 0
 · have HT := Lh (show tOpen l node = (l, 0, 2) from if_pos hneg)
   go_enter Tryz.func92, Tryz.ntmps92
   go_wp2_with fail
   refine HN.out.mono ?_
   rintro e w1 ⟨rfl, rfl⟩
   go_wp2_with fail
   go_ret2
   rw [HT.out]
   exact ⟨rfl, h, World.grownBy.refl _ _⟩
 · have HNG := Lh hneg
   have HH := Lh h
   have hlen := h.1
   have HL := Lh hlen
   clear h hlen
   go_enter Tryz.func92, Tryz.ntmps92
   go_wp2_with fail
   refine HN.out.mono ?_
   rintro e w1 ⟨rfl, rfl⟩
   go_wp2_with fail
   go_loop [6, 13] (fun _ jj => ∃ k : Nat, k ≤ 16 ∧ jj = .int .i64 k ∧ Hid (∀ j < k, ∃ s, l[j]? = some s ∧ s.o = true)) (fun _ jj => 16 - (intOf jj).toNat)
   case atStart => exact ⟨0, by omega, rfl, fun j hj => by omega⟩
   case round =>
    obtain ⟨k, hk, rfl, HA⟩ := hrel
    by_cases hlt : k < 16
    · obtain ⟨s, hs⟩ : ∃ s, l[k]? = some s := ⟨_, List.getElem?_eq_getElem (by rw [HL.out]; exact hlt)⟩
      obtain ⟨d0, d1, d2⟩ := HH.out.at hs
      obtain ⟨f0, f1, f2⟩ := HH.out.free hlt
      have h1 : (k : Int) < 16 := by omega
      have h2 : (0 : Int) ≤ (k : Int) := by omega
      cases ho : s.o with
      | true =>
       rw [ho] at d0
       have HA2 : Hid (∀ j < k + 1, ∃ s, l[j]? = some s ∧ s.o = true) := by
        intro j hj
        by_cases c : j < k
        · exact HA.out j c
        · obtain rfl : j = k := by omega
          exact ⟨s, hs, ho⟩
       clear hs ho d1 d2 f0 f1 f2
       go_wp2_with fail
       go_round
       case rel => exact ⟨k + 1, by omega, by go_num, HA2⟩
       case measure => simp [intOf]; omega
      | false =>
       rw [ho] at d0
       have HF : Hid (firstFree l = some k) := by
        show _ = _
        rw [firstFree, List.findIdx?_eq_some_iff_getElem]
        refine ⟨by rw [HL.out]; exact hlt, ?_, fun j hj => ?_⟩
        · rw [(List.getElem_eq_iff _).2 hs, ho]; rfl
        · obtain ⟨s', h1', h2'⟩ := HA.out j hj
          rw [(List.getElem_eq_iff _).2 h1', h2']; simp
       have HT := Lh (show tOpen l node = (l.set k ⟨true, node, 0⟩, (k : Int), 0) from by rw [tOpen, if_neg (by have := HNG.out; omega), HF.out])
       have HP := Lh (HH.out.put k ⟨true, node, 0⟩ hlt)
       have hlt2 := HH.out.lt
       clear hs ho
       go_wp2_with fail
       go_ret2
       rw [HT.out]
       exact ⟨rfl, HP.out, grown_sets _ _ _ _ _ _⟩
    · have h1 : ¬ (k : Int) < 16 := by omega
      have HF : Hid (firstFree l = none) := by
       show _ = _
       rw [firstFree, List.findIdx?_eq_none_iff]
       intro x hx
       obtain ⟨j, hj, rfl⟩ := List.getElem_of_mem hx
       obtain ⟨s', h1', h2'⟩ := HA.out j (by rw [HL.out] at hj; omega)
       rw [(List.getElem_eq_iff _).2 h1', h2']; rfl
      have HT := Lh (show tOpen l node = (l, 0, 221) from by rw [tOpen, if_neg (by have := HNG.out; omega), HF.out])
      go_wp2_with fail
      go_ret2
      rw [HT.out]
      exact ⟨rfl, HH.out, World.grownBy.refl _ _⟩
end Go.Proofs.YtppdihpobokfnaaGreatDoor
set_option linter.unusedVariables false
set_option linter.unusedSimpArgs false
set_option maxRecDepth 100000
namespace Go.Proofs.YtppdihpobokfnaaGreatDoor
open Go.RowKit Go.Joins
theorem hget_bad (K : Nat) (l : List Sl) (fd : Int) (w : World) (h : TabAt w K true l) (hs : slotOf l fd = none) :
  Calls Tryz.prog 63 #[.pointer (some ⟨K, 0, none⟩), .int .i64 fd] w fun e w' => e = .returned (.tuple #[.int .i64 0, .int .i64 0, .int .i64 220]) ∧ w = w' := by
 have HF := Lh (hfind_bad K l fd w h hs)
 clear h hs
 go_enter Tryz.func63, Tryz.ntmps63
 go_wp2_with fail
 refine HF.out.mono ?_
 rintro e w1 ⟨rfl, rfl⟩
 go_wp2_with fail
 go_ret3
 exact ⟨rfl, rfl⟩
theorem hget_ok (K : Nat) (l : List Sl) (fd : Int) (s : Sl) (w : World) (h : TabAt w K true l) (hs : slotOf l fd = some s) :
  Calls Tryz.prog 63 #[.pointer (some ⟨K, 0, none⟩), .int .i64 fd] w fun e w' => e = .returned (.tuple #[.int .i64 s.n, .int .i64 s.a, .int .i64 0]) ∧ Below w.heap.size w w' := by
 obtain ⟨h0, h1, h2, h3⟩ := slotOf_some hs
 obtain ⟨k, rfl⟩ := Int.eq_ofNat_of_zero_le h0
 rw [Int.toNat_natCast] at h2
 have HF := Lh (hfind_ok K l k s w h h2 h3)
 obtain ⟨d0, d1, d2⟩ := h.at h2
 clear h hs h2 h3 d0
 go_enter Tryz.func63, Tryz.ntmps63
 go_wp2_with fail
 refine HF.out.mono ?_
 rintro e w1 ⟨rfl, rfl⟩
 go_wp2_with fail
 go_quiet (fail)
 go_wp2_with fail
 go_ret3
 exact ⟨rfl, below_drewN (Below.refl _ _) nq⟩
def tSeek (l : List Sl) (fd at_ : Int) : List Sl × Int := match slotOf l fd with
 | none => (l, 220)
 | some s => if at_ < 0 ∨ 262144 < at_ then (l, 216) else (l.set fd.toNat ⟨s.o, s.n, at_⟩, 0)
theorem set_one (w : World) (K : Nat) (l : List Sl) (k : Nat) (s : Sl) (z : Int) (h : TabAt w K true l) (hs : l[k]? = some s) : TabAt (w.setCell ⟨K, 1 + k * 3 + 2, none⟩ (.int .i64 z)) K true (l.set k ⟨s.o, s.n, z⟩) := by
 have hk := (List.getElem?_eq_some_iff.1 hs).1
 refine ⟨by rw [List.length_set]; exact h.1, ?_⟩
 have e := tcell_set true l k ⟨s.o, s.n, z⟩ hk
 obtain ⟨a, b, c⟩ := tcell_get (m := true) hs
 have e0 : (tcells true l).set (1 + k * 3) (.bool s.o) = tcells true l := by
  obtain ⟨hl, q⟩ := List.getElem?_eq_some_iff.1 a
  rw [← q]; exact List.set_getElem_self hl
 have e1 : (tcells true l).set (1 + k * 3 + 1) (.int .i64 s.n) = tcells true l := by
  obtain ⟨hl, q⟩ := List.getElem?_eq_some_iff.1 b
  rw [← q]; exact List.set_getElem_self hl
 simp only at e
 rw [e0, e1] at e
 rw [← e]
 exact h.2.set _ _
theorem hseek (K : Nat) (l : List Sl) (fd at_ : Int) (w : World) (h : TabAt w K true l) :
  Calls Tryz.prog 94 #[.pointer (some ⟨K, 0, none⟩), .int .i64 fd, .int .i64 at_] w fun e w' => e = .returned (.int .i64 (tSeek l fd at_).2) ∧ TabAt w' K true (tSeek l fd at_).1 ∧ w.grownBy w' (some K) := by
 cases hs : slotOf l fd with
 | none =>
  have HF := Lh (hfind_bad K l fd w h hs)
  have HT := Lh (show tSeek l fd at_ = (l, 220) from by rw [tSeek, hs])
  have HH := Lh h
  clear h hs
  go_enter Tryz.func94, Tryz.ntmps94
  go_wp2_with fail
  refine HF.out.mono ?_
  rintro e w1 ⟨rfl, rfl⟩
  go_wp2_with fail
  go_ret
  rw [HT.out]
  exact ⟨rfl, HH.out, World.grownBy.refl _ _⟩
 | some s =>
  obtain ⟨h0, h1, h2, h3⟩ := slotOf_some hs
  obtain ⟨k, rfl⟩ := Int.eq_ofNat_of_zero_le h0
  rw [Int.toNat_natCast] at h2
  have HF := Lh (hfind_ok K l k s w h h2 h3)
  have HH := Lh h
  obtain ⟨f0, f1, f2⟩ := h.free (show k < 16 by omega)
  obtain ⟨d0, d1, d2⟩ := h.at h2
  have hlt := h.lt
  have HP := Lh (set_one w K l k s at_ h h2)
  by_cases c : at_ < 0
  · have HT := Lh (show tSeek l (k : Int) at_ = (l, 216) from by rw [tSeek, hs]; exact if_pos (.inl c))
    clear h hs h2 h3 d0 d1
    go_enter Tryz.func94, Tryz.ntmps94
    go_wp2_with fail
    refine HF.out.mono ?_
    rintro e w1 ⟨rfl, rfl⟩
    go_wp2_with fail
    go_ret
    rw [HT.out]
    exact ⟨rfl, HH.out, World.grownBy.refl _ _⟩
  · by_cases c2 : 262144 < at_
    · have HT := Lh (show tSeek l (k : Int) at_ = (l, 216) from by rw [tSeek, hs]; exact if_pos (.inr c2))
      clear h hs h2 h3 d0 d1
      go_enter Tryz.func94, Tryz.ntmps94
      go_wp2_with fail
      refine HF.out.mono ?_
      rintro e w1 ⟨rfl, rfl⟩
      go_wp2_with fail
      go_ret
      rw [HT.out]
      exact ⟨rfl, HH.out, World.grownBy.refl _ _⟩
    · have HT := Lh (show tSeek l (k : Int) at_ = (l.set k ⟨s.o, s.n, at_⟩, 0) from by rw [tSeek, hs]; exact if_neg (by omega))
      clear h hs h2 h3 d0 d1
      go_enter Tryz.func94, Tryz.ntmps94
      go_wp2_with fail
      refine HF.out.mono ?_
      rintro e w1 ⟨rfl, rfl⟩
      go_wp2_with fail
      go_ret
      rw [HT.out]
      exact ⟨rfl, HP.out, grown_set (World.grownBy.refl _ _) _ _⟩
def hasP (node : Int) (s : Sl) : Bool := s.o && s.n == node
def freeP (s : Sl) : Bool := !s.o
theorem has1 (K : Nat) (node : Int) (s : Sl) (w : World) (hc : w.cell? ⟨K, 0, none⟩ = some (.int .i64 node)) :
  Calls Tryz.prog 138 #[.agg #[.bool s.o, .int .i64 s.n, .int .i64 s.a], .pointer (some ⟨K, 0, none⟩)] w fun e w' => e = .returned (.bool (hasP node s)) ∧ Below w.heap.size w w' := by
 obtain ⟨o, n, a⟩ := s
 have hl : K < w.heap.size := by
  rcases Nat.lt_or_ge K w.heap.size with h' | h'
  · exact h'
  · simp [World.cell?, Array.getElem?_eq_none h'] at hc
 cases o with
 | true =>
  go_enter Tryz.func138, Tryz.ntmps138
  go_wp2
  go_ret
  exact ⟨rfl, (Below.refl _ _).alloc (Nat.le_refl _) _⟩
 | false =>
  go_enter Tryz.func138, Tryz.ntmps138
  go_wp2
  go_ret
  exact ⟨rfl, (Below.refl _ _).alloc (Nat.le_refl _) _⟩
theorem full1 (s : Sl) (w : World) :
  Calls Tryz.prog 127 #[.agg #[.bool s.o, .int .i64 s.n, .int .i64 s.a]] w fun e w' => e = .returned (.bool (freeP s)) ∧ Below w.heap.size w w' := by
 go_enter Tryz.func127, Tryz.ntmps127
 go_wp2
 go_ret
 exact ⟨rfl, (Below.refl _ _).alloc (Nat.le_refl _) _⟩
end Go.Proofs.YtppdihpobokfnaaGreatDoor
set_option linter.unusedVariables false
set_option linter.unusedSimpArgs false
set_option maxRecDepth 100000
namespace Go.Proofs.YtppdihpobokfnaaGreatDoor
open Go.RowKit Go.Joins
def fIdx (r : Option Nat) : Int := match r with | some k => (k : Int) | none => -1
set_option maxHeartbeats 1000000 in
theorem has_index (K : Nat) (m : Bool) (l : List Sl) (B : Nat) (node : Int) (w : World) (h : TabAt w K m l) (hc : w.cell? ⟨B, 0, none⟩ = some (.int .i64 node)) (hB : B < w.heap.size) :
  Calls Tryz.prog 143 #[.slice (some ⟨K, 1, none⟩) 16 16, .func (.func 138) #[] #[.pointer (some ⟨B, 0, none⟩)]] w fun e w' => e = .returned (.int .i64 (fIdx (l.findIdx? (hasP node)))) ∧ Below w.heap.size w w' := by
 have HH := Lh h
 have HL := Lh h.1
 have HC := Lh hc
 clear h hc
 go_enter Tryz.func143, Tryz.ntmps143
 go_wp2_with fail
 go_loopw [5, 8] (fun _ jj wr => ∃ k : Nat, k ≤ 16 ∧ jj = .int .i64 k ∧ Hid (∀ j < k, ∃ s, l[j]? = some s ∧ (hasP node s) = false) ∧ Below w.heap.size w wr) (fun _ jj _ => 16 - (intOf jj).toNat)
 case atStart => exact ⟨0, by omega, rfl, fun j hj => by omega, Below.refl _ _⟩
 case round =>
  obtain ⟨k, hk, rfl, HA, Bw⟩ := hrel
  by_cases hlt : k < 16
  · obtain ⟨s, hs⟩ : ∃ s, l[k]? = some s := ⟨_, List.getElem?_eq_getElem (by rw [HL.out]; exact hlt)⟩
    obtain ⟨d0, d1, d2⟩ := (HH.out.below Bw (Nat.le_refl _)).at hs
    have HS := Lh hs
    have h1 : (k : Int) < 16 := by omega
    have h2 : (0 : Int) ≤ (k : Int) := by omega
    have hc2 : wr.cell? ⟨B, 0, none⟩ = some (.int .i64 node) := by rw [Bw.cell (p := ⟨B, 0, none⟩) hB]; exact HC.out
    clear hs
    go_wp2_with fail
    refine (has1 B node s _ hc2).mono ?_
    rintro e w1 ⟨rfl, hb1⟩
    have B1 := below_chain Bw hb1 Bw.size
    clear d0 d1 d2
    cases hp : (hasP node s) with
    | true =>
     have HF : Hid (l.findIdx? (hasP node) = some k) := by
      show _ = _
      rw [List.findIdx?_eq_some_iff_getElem]
      refine ⟨by rw [HL.out]; exact hlt, ?_, fun j hj => ?_⟩
      · rw [(List.getElem_eq_iff _).2 HS.out]; exact hp
      · obtain ⟨s', h1', h2'⟩ := HA.out j hj
        rw [(List.getElem_eq_iff _).2 h1', h2']; simp
     have HP := Lh hp
     go_wp2_with fail
     go_ret
     rw [HF.out]
     exact ⟨rfl, B1⟩
    | false =>
     have HA2 : Hid (∀ j < k + 1, ∃ s, l[j]? = some s ∧ (hasP node s) = false) := by
      intro j hj
      by_cases c : j < k
      · exact HA.out j c
      · obtain rfl : j = k := by omega
        exact ⟨s, HS.out, hp⟩
     go_wp2_with fail
     go_roundw
     case rel => exact ⟨k + 1, by omega, by go_num, HA2, B1⟩
     case measure => simp [intOf]; omega
  · have h1 : ¬ (k : Int) < 16 := by omega
    have HF : Hid (l.findIdx? (hasP node) = none) := by
     show _ = _
     rw [List.findIdx?_eq_none_iff]
     intro x hx
     obtain ⟨j, hj, rfl⟩ := List.getElem_of_mem hx
     obtain ⟨s', h1', h2'⟩ := HA.out j (by rw [HL.out] at hj; omega)
     rw [(List.getElem_eq_iff _).2 h1', h2']
    go_wp2_with fail
    go_ret
    rw [HF.out]
    exact ⟨rfl, Bw⟩
theorem has_contains (K : Nat) (m : Bool) (l : List Sl) (B : Nat) (node : Int) (w : World) (h : TabAt w K m l) (hc : w.cell? ⟨B, 0, none⟩ = some (.int .i64 node)) (hB : B < w.heap.size) :
  Calls Tryz.prog 126 #[.slice (some ⟨K, 1, none⟩) 16 16, .func (.func 138) #[] #[.pointer (some ⟨B, 0, none⟩)]] w fun e w' => e = .returned (.bool (l.any (hasP node))) ∧ Below w.heap.size w w' := by
 cases hf : l.findIdx? (hasP node) with
 | some k =>
  have HI := Lh (show Calls Tryz.prog 143 #[.slice (some ⟨K, 1, none⟩) 16 16, .func (.func 138) #[] #[.pointer (some ⟨B, 0, none⟩)]] w fun e w' => e = .returned (.int .i64 (k : Int)) ∧ Below w.heap.size w w' from by
   have := has_index K m l B node w h hc hB; rw [hf] at this; exact this)
  have HR : Hid (l.any (hasP node) = true) := by
   show _ = _
   rw [List.findIdx?_eq_some_iff_getElem] at hf
   obtain ⟨hk, h1, _⟩ := hf
   rw [List.any_eq_true]
   exact ⟨_, List.getElem_mem hk, h1⟩
  have h0 : (0 : Int) ≤ (k : Int) := by omega
  clear hf h
  go_enter Tryz.func126, Tryz.ntmps126
  go_wp2_with fail
  refine HI.out.mono ?_
  rintro e w1 ⟨rfl, hb⟩
  go_wp2_with fail
  go_ret
  rw [HR.out]
  exact ⟨rfl, hb⟩
 | none =>
  have HI := Lh (show Calls Tryz.prog 143 #[.slice (some ⟨K, 1, none⟩) 16 16, .func (.func 138) #[] #[.pointer (some ⟨B, 0, none⟩)]] w fun e w' => e = .returned (.int .i64 (-1)) ∧ Below w.heap.size w w' from by
   have := has_index K m l B node w h hc hB; rw [hf] at this; exact this)
  have HR : Hid (l.any (hasP node) = false) := by
   show _ = _
   rw [List.findIdx?_eq_none_iff] at hf
   rw [List.any_eq_false]
   intro x hx
   rw [hf x hx]; simp
  clear hf h
  go_enter Tryz.func126, Tryz.ntmps126
  go_wp2_with fail
  refine HI.out.mono ?_
  rintro e w1 ⟨rfl, hb⟩
  go_wp2_with fail
  go_ret
  rw [HR.out]
  exact ⟨rfl, hb⟩
set_option maxHeartbeats 1000000 in
theorem full_index (K : Nat) (m : Bool) (l : List Sl) (w : World) (h : TabAt w K m l) :
  Calls Tryz.prog 143 #[.slice (some ⟨K, 1, none⟩) 16 16, .func (.func 127) #[] #[]] w fun e w' => e = .returned (.int .i64 (fIdx (l.findIdx? freeP))) ∧ Below w.heap.size w w' := by
 have HH := Lh h
 have HL := Lh h.1
 clear h
 go_enter Tryz.func143, Tryz.ntmps143
 go_wp2_with fail
 go_loopw [5, 8] (fun _ jj wr => ∃ k : Nat, k ≤ 16 ∧ jj = .int .i64 k ∧ Hid (∀ j < k, ∃ s, l[j]? = some s ∧ (freeP s) = false) ∧ Below w.heap.size w wr) (fun _ jj _ => 16 - (intOf jj).toNat)
 case atStart => exact ⟨0, by omega, rfl, fun j hj => by omega, Below.refl _ _⟩
 case round =>
  obtain ⟨k, hk, rfl, HA, Bw⟩ := hrel
  by_cases hlt : k < 16
  · obtain ⟨s, hs⟩ : ∃ s, l[k]? = some s := ⟨_, List.getElem?_eq_getElem (by rw [HL.out]; exact hlt)⟩
    obtain ⟨d0, d1, d2⟩ := (HH.out.below Bw (Nat.le_refl _)).at hs
    have HS := Lh hs
    have h1 : (k : Int) < 16 := by omega
    have h2 : (0 : Int) ≤ (k : Int) := by omega
    clear hs
    go_wp2_with fail
    refine (full1 s _).mono ?_
    rintro e w1 ⟨rfl, hb1⟩
    have B1 := below_chain Bw hb1 Bw.size
    clear d0 d1 d2
    cases hp : (freeP s) with
    | true =>
     have HF : Hid (l.findIdx? freeP = some k) := by
      show _ = _
      rw [List.findIdx?_eq_some_iff_getElem]
      refine ⟨by rw [HL.out]; exact hlt, ?_, fun j hj => ?_⟩
      · rw [(List.getElem_eq_iff _).2 HS.out]; exact hp
      · obtain ⟨s', h1', h2'⟩ := HA.out j hj
        rw [(List.getElem_eq_iff _).2 h1', h2']; simp
     have HP := Lh hp
     go_wp2_with fail
     go_ret
     rw [HF.out]
     exact ⟨rfl, B1⟩
    | false =>
     have HA2 : Hid (∀ j < k + 1, ∃ s, l[j]? = some s ∧ (freeP s) = false) := by
      intro j hj
      by_cases c : j < k
      · exact HA.out j c
      · obtain rfl : j = k := by omega
        exact ⟨s, HS.out, hp⟩
     go_wp2_with fail
     go_roundw
     case rel => exact ⟨k + 1, by omega, by go_num, HA2, B1⟩
     case measure => simp [intOf]; omega
  · have h1 : ¬ (k : Int) < 16 := by omega
    have HF : Hid (l.findIdx? freeP = none) := by
     show _ = _
     rw [List.findIdx?_eq_none_iff]
     intro x hx
     obtain ⟨j, hj, rfl⟩ := List.getElem_of_mem hx
     obtain ⟨s', h1', h2'⟩ := HA.out j (by rw [HL.out] at hj; omega)
     rw [(List.getElem_eq_iff _).2 h1', h2']
    go_wp2_with fail
    go_ret
    rw [HF.out]
    exact ⟨rfl, Bw⟩
theorem full_contains (K : Nat) (m : Bool) (l : List Sl) (w : World) (h : TabAt w K m l) :
  Calls Tryz.prog 126 #[.slice (some ⟨K, 1, none⟩) 16 16, .func (.func 127) #[] #[]] w fun e w' => e = .returned (.bool (l.any freeP)) ∧ Below w.heap.size w w' := by
 cases hf : l.findIdx? freeP with
 | some k =>
  have HI := Lh (show Calls Tryz.prog 143 #[.slice (some ⟨K, 1, none⟩) 16 16, .func (.func 127) #[] #[]] w fun e w' => e = .returned (.int .i64 (k : Int)) ∧ Below w.heap.size w w' from by
   have := full_index K m l w h; rw [hf] at this; exact this)
  have HR : Hid (l.any freeP = true) := by
   show _ = _
   rw [List.findIdx?_eq_some_iff_getElem] at hf
   obtain ⟨hk, h1, _⟩ := hf
   rw [List.any_eq_true]
   exact ⟨_, List.getElem_mem hk, h1⟩
  have h0 : (0 : Int) ≤ (k : Int) := by omega
  clear hf h
  go_enter Tryz.func126, Tryz.ntmps126
  go_wp2_with fail
  refine HI.out.mono ?_
  rintro e w1 ⟨rfl, hb⟩
  go_wp2_with fail
  go_ret
  rw [HR.out]
  exact ⟨rfl, hb⟩
 | none =>
  have HI := Lh (show Calls Tryz.prog 143 #[.slice (some ⟨K, 1, none⟩) 16 16, .func (.func 127) #[] #[]] w fun e w' => e = .returned (.int .i64 (-1)) ∧ Below w.heap.size w w' from by
   have := full_index K m l w h; rw [hf] at this; exact this)
  have HR : Hid (l.any freeP = false) := by
   show _ = _
   rw [List.findIdx?_eq_none_iff] at hf
   rw [List.any_eq_false]
   intro x hx
   rw [hf x hx]; simp
  clear hf h
  go_enter Tryz.func126, Tryz.ntmps126
  go_wp2_with fail
  refine HI.out.mono ?_
  rintro e w1 ⟨rfl, hb⟩
  go_wp2_with fail
  go_ret
  rw [HR.out]
  exact ⟨rfl, hb⟩
def tHas (l : List Sl) (node : Int) : Bool := l.any (hasP node)
def tFull (l : List Sl) : Bool := l.all fun s => s.o
theorem tFull_any (l : List Sl) : (!l.any freeP) = tFull l := by
 induction l with
 | nil => rfl
 | cons x r ih => rw [List.any_cons, Bool.not_or, ih, tFull, tFull, List.all_cons, freeP, Bool.not_not]
theorem hhas (K : Nat) (l : List Sl) (node : Int) (w : World) (h : TabAt w K true l) :
  Calls Tryz.prog 121 #[.pointer (some ⟨K, 0, none⟩), .int .i64 node] w fun e w' => e = .returned (.bool (tHas l node)) ∧ Below w.heap.size w w' := by
 have X : Below w.heap.size w (w.alloc (.cells #[.int .i64 node] 3)) := (Below.refl _ _).alloc (Nat.le_refl _) _
 have h2 := h.below X (Nat.le_refl _)
 have HN := Lh (hnone_row K true _ h2.head)
 have HC := Lh (has_contains K true l w.heap.size node _ h2 (by simp) (by simp))
 have hl := h.lt
 clear h h2
 go_enter Tryz.func121, Tryz.ntmps121
 go_wp2_with fail
 refine HN.out.mono ?_
 rintro e w1 ⟨rfl, rfl⟩
 go_wp2_with fail
 refine HC.out.mono ?_
 rintro e w1 ⟨rfl, hb⟩
 have B := X.trans (below_le hb (by simp))
 go_wp2_with fail
 go_ret
 exact ⟨rfl, B⟩
theorem hfull (K : Nat) (l : List Sl) (w : World) (h : TabAt w K true l) :
  Calls Tryz.prog 88 #[.pointer (some ⟨K, 0, none⟩)] w fun e w' => e = .returned (.bool (tFull l)) ∧ Below w.heap.size w w' := by
 have HN := Lh (hnone_row K true _ h.head)
 have HC := Lh (full_contains K true l _ h)
 have HT := Lh (tFull_any l)
 have hl := h.lt
 clear h
 go_enter Tryz.func88, Tryz.ntmps88
 go_wp2_with fail
 refine HN.out.mono ?_
 rintro e w1 ⟨rfl, rfl⟩
 go_wp2_with fail
 refine HC.out.mono ?_
 rintro e w1 ⟨rfl, hb⟩
 go_wp2_with fail
 go_ret
 exact ⟨by rw [← HT.out]; rfl, hb⟩
def tClose (l : List Sl) (fd : Int) : List Sl × Int × Bool × Int := match slotOf l fd with
 | none => (l, 0, false, 220)
 | some s => (l.set fd.toNat Sl.none, s.n, !tHas (l.set fd.toNat Sl.none) s.n, 0)
set_option maxHeartbeats 1000000 in
theorem hclose (K : Nat) (l : List Sl) (fd : Int) (w : World) (h : TabAt w K true l) :
  Calls Tryz.prog 93 #[.pointer (some ⟨K, 0, none⟩), .int .i64 fd] w fun e w' => e = .returned (.tuple #[.int .i64 (tClose l fd).2.1, .bool (tClose l fd).2.2.1, .int .i64 (tClose l fd).2.2.2]) ∧ TabAt w' K true (tClose l fd).1 ∧ w.grownBy w' (some K) := by
 cases hs : slotOf l fd with
 | none =>
  have HF := Lh (hfind_bad K l fd w h hs)
  have HT := Lh (show tClose l fd = (l, 0, false, 220) from by rw [tClose, hs])
  have HH := Lh h
  clear h hs
  go_enter Tryz.func93, Tryz.ntmps93
  go_wp2_with fail
  refine HF.out.mono ?_
  rintro e w1 ⟨rfl, rfl⟩
  go_wp2_with fail
  go_ret3
  rw [HT.out]
  exact ⟨rfl, HH.out, World.grownBy.refl _ _⟩
 | some s =>
  obtain ⟨h0, h1, h2, h3⟩ := slotOf_some hs
  obtain ⟨k, rfl⟩ := Int.eq_ofNat_of_zero_le h0
  rw [Int.toNat_natCast] at h2
  have HF := Lh (hfind_ok K l k s w h h2 h3)
  obtain ⟨f0, f1, f2⟩ := h.free (show k < 16 by omega)
  obtain ⟨d0, d1, d2⟩ := h.at h2
  have hlt := h.lt
  have hP := h.put k Sl.none (by omega)
  have HP := Lh hP
  have HHS := Lh (hhas K (l.set k Sl.none) s.n _ hP)
  have HT := Lh (show tClose l (k : Int) = (l.set k Sl.none, s.n, !tHas (l.set k Sl.none) s.n, 0) from by rw [tClose, hs]; rfl)
  clear h hs h2 h3 hP
  go_enter Tryz.func93, Tryz.ntmps93
  go_wp2_with fail
  refine HF.out.mono ?_
  rintro e w1 ⟨rfl, rfl⟩
  go_wp2_with fail
  refine HHS.out.mono ?_
  rintro e w1 ⟨rfl, hb⟩
  have HP2 := Lh (HP.out.below hb (Nat.le_refl _))
  have HG : Hid (w.grownBy w1 (some K)) := by
   have g := grown_sets (w := w) (K := K) (1 + k * 3) (1 + k * 3 + 1) (1 + k * 3 + 2) (.bool Sl.none.o) (.int .i64 Sl.none.n) (.int .i64 Sl.none.a)
   exact ⟨hb.os.trans g.os, hb.tape.trans g.tape, hb.output.trans g.output, Nat.le_trans g.size hb.size, fun j hj hne => (hb.block j (by have := g.size; omega)).trans (g.block j hj hne)⟩
  clear hb
  go_wp2_with fail
  go_ret3
  rw [HT.out]
  exact ⟨rfl, HP2.out, HG.out⟩
end Go.Proofs.YtppdihpobokfnaaGreatDoor
set_option linter.unusedVariables false
set_option linter.unusedSimpArgs false
set_option maxRecDepth 100000
namespace Go.Proofs.YtppdihpobokfnaaGreatDoor
open Go.RowKit Go.Joins
end Go.Proofs.YtppdihpobokfnaaGreatDoor
set_option linter.unusedVariables false
set_option linter.unusedSimpArgs false
namespace Go.Proofs.YtppdihpobokfnaaGreatDoor
open Go Go.RowKit Go.Sort
def openN (l : List Sl) (k : Nat) : List Int := ((l.take k).filter (·.o)).map (·.n)
theorem openN_yes {l : List Sl} {k : Nat} {s : Sl} (h : l[k]? = some s) (ho : s.o = true) : openN l (k + 1) = openN l k ++ [s.n] := by
 obtain ⟨hk, e⟩ := List.getElem?_eq_some_iff.1 h
 rw [openN, openN, List.take_succ_eq_append_getElem hk, List.filter_append, List.map_append, e]
 simp [ho]
theorem openN_no {l : List Sl} {k : Nat} {s : Sl} (h : l[k]? = some s) (ho : s.o = false) : openN l (k + 1) = openN l k := by
 obtain ⟨hk, e⟩ := List.getElem?_eq_some_iff.1 h
 rw [openN, openN, List.take_succ_eq_append_getElem hk, List.filter_append, List.map_append, e]
 simp [ho]
theorem openN_len (l : List Sl) (k : Nat) : (openN l k).length ≤ k := by
 rw [openN, List.length_map]
 exact Nat.le_trans (List.length_filter_le _ _) (by simp; omega)
def nodesOf (l : List Sl) : List Int := Lib.compact ((openN l 16).mergeSort fun x y => decide (x ≤ y))
end Go.Proofs.YtppdihpobokfnaaGreatDoor
set_option linter.unusedVariables false
set_option linter.unusedSimpArgs false
set_option maxRecDepth 100000
namespace Go.Proofs.YtppdihpobokfnaaGreatDoor
open Go.RowKit Go.Joins Go.Sort
theorem slot_index (l : List Sl) (hl : l.length = 16) (k : Nat) (s : Sl) (h : l[k]? = some s) : ∀ w, (Instr.index 136 (.agg (l.flatMap scells).toArray) (.int .i64 (k : Int))).run Tryz.prog w = .ok (.agg #[.bool s.o, .int .i64 s.n, .int .i64 s.a]) w := by
 intro w
 have hk := (List.getElem?_eq_some_iff.1 h).1
 have h1 : (0 : Int) ≤ (k : Int) ∧ (k : Int) < 16 := by omega
 have e1 : ((k : Int)).toNat = k := by omega
 have hz := scells_len l
 have hk16 : k < 16 := by omega
 have hx : List.take 3 (List.drop (k * 3) (l.flatMap scells)) = [.bool s.o, .int .i64 s.n, .int .i64 s.a] := by
  obtain ⟨a, b, c⟩ := flat_get l k s h
  apply List.ext_getElem?
  intro j
  match j with
  | 0 => rw [List.getElem?_take_of_lt (by omega), List.getElem?_drop]; exact a
  | 1 => rw [List.getElem?_take_of_lt (by omega), List.getElem?_drop]; exact b
  | 2 => rw [List.getElem?_take_of_lt (by omega), List.getElem?_drop]; exact c
  | j + 3 => rw [List.getElem?_take_eq_none (by omega)]; rfl
 simp [Instr.index, go_sem, Tryz.underlying136, e1, h1, hk16, part, Tryz.isAgg135, Tryz.sizeOf135, hx, asIntOf]
def NodesP (l : List Sl) (w : World) (e : Ending) (w' : World) : Prop := ∃ a cap, e = .returned (.slice a (nodesOf l).length cap) ∧ NewS w' w.heap.size a ((nodesOf l).map (Value.int .i64)) ∧ Below w.heap.size w w'
theorem info_int6 : (Tryz.prog.info? 3).map (fun i => (i.zero, i.size, i.bytes)) = some (some (.int .i64 0), 1, 8) := by kernel_rfl
theorem info_arr6 : (Tryz.prog.info? 136).map (·.size) = some 48 := by kernel_rfl
set_option maxHeartbeats 4000000 in
theorem hnodes (K : Nat) (l : List Sl) (w : World) (h : TabAt w K true l) : Calls Tryz.prog 84 #[.pointer (some ⟨K, 0, none⟩)] w (NodesP l w) := by
 have HN := Lh (hnone_row K true w h.head)
 have HL := Lh h.1
 have HX := Lh (fun k s => slot_index l h.1 k s)
 have HR : Hid (w.rangeAt K 1 (l.flatMap scells)) := by
  intro j v hv
  have := h.2.cell (1 + j) (by rw [tcells, List.length_cons]; have := (List.getElem?_eq_some_iff.1 hv).1; omega)
  rw [this, Nat.add_comm 1 j, tcells, List.getElem?_cons_succ]
  exact hv
 have hsz : Hid ((Tryz.prog.info? 136).map (·.size) = some (l.flatMap scells).length) := by
  show _ = _
  rw [info_arr6, scells_len, h.1]
 obtain ⟨i0, hi, hz0, hz1, hz2⟩ := info_parts info_int6
 have HI := Lh (And.intro hi (And.intro hz0 (And.intro hz1 hz2)))
 have hlt := h.lt
 clear hi hz0 hz1 hz2 h
 go_enter Tryz.func84, Tryz.ntmps84
 go_wp2_with fail
 refine HN.out.mono ?_
 rintro e w1 ⟨rfl, rfl⟩
 go_wp2_with (refine wpList_load_mid rfl _ _ rfl K 1 (by rfl) (l.flatMap scells) _ HR.out Tryz.underlying136 rfl hsz.out ?_)
 generalize hcs : (l.flatMap scells).toArray = cs at HX ⊢
 clear hcs HR
 go_wp2_with fail
 go_loopw [3, 5, 12] (fun oo _ jj wr => ∃ (k : Nat) (a : Option Addr) (cap : Nat), k ≤ 16 ∧ jj = .int .i64 k ∧ oo = .slice a (openN l k).length cap ∧ wr.ownsRow w.heap.size 3 1 (.slice a (openN l k).length cap) (openN l k).length ((openN l k).map (Value.int .i64)) ∧ Below w.heap.size w wr) (fun _ _ jj _ => 16 - (intOf jj).toNat)
 case atStart => exact ⟨0, none, 0, by omega, rfl, rfl, World.ownsRow_nil _ _ _ _, Below.refl _ _⟩
 case round =>
  obtain ⟨k, a, cap, hk, rfl, rfl, hown, B⟩ := hrel
  have HK := Lh hown
  have HB := Lh (fun j hj => World.ownsRow.lt HK.out j hj)
  have hle := openN_len l k
  clear hown
  by_cases hlt2 : k < 16
  · obtain ⟨s, hs⟩ : ∃ s, l[k]? = some s := ⟨_, List.getElem?_eq_getElem (by rw [HL.out]; exact hlt2)⟩
    have hx := HX.out k s hs
    have h1 : (k : Int) < 16 := by omega
    have B1 := B.alloc B.size (.cells #[.bool s.o, .int .i64 s.n, .int .i64 s.a] 135)
    cases ho : s.o with
    | true =>
     have HS := Lh (openN_yes hs ho)
     rw [ho] at hx B1
     clear hs
     have hlen : (openN l k).length + 1 = (openN l (k + 1)).length := by rw [HS.out]; simp
     have HR := Lh (row_news4 (show RowAt ((wr.alloc (.cells #[.bool true, .int .i64 s.n, .int .i64 s.a] 135)).alloc (.cells #[.int .i64 s.n] 3)) (wr.heap.size + 1) [.int .i64 s.n] from by have := rowAt_alloc (wr.alloc (.cells #[.bool true, .int .i64 s.n, .int .i64 s.a] 135)) #[.int .i64 s.n] 3; rw [World.size_alloc] at this; exact this))
     go_wp2_with (at_builtin; refine wpList_append_own _ rfl _ _ 31 rfl w.heap.size 3 i0 (.int .i64 0) 1 8 Tryz.underlying31 HI.out.1 HI.out.2.1 HI.out.2.2.1 HI.out.2.2.2 rfl (by decide) _ (openN l k).length _ rfl ((HK.out.alloc _).alloc _) ⟨wr.heap.size + 1, 0, none⟩ 1 1 [.int .i64 s.n] rfl rfl HR.out ?c2 ?c3 ?c4 ?c5 ?_)
     case c2 => intro u hu; simp at hu; subst hu; rfl
     case c3 => unfold maxLen; omega
     case c4 => omega
     case c5 => have := B.size; simp; omega
     intro v' w9 hown9 hg9 _
     obtain ⟨a9, cap9, rfl⟩ := own_form hown9
     have B9 := grown_below4 (B1.alloc B1.size (.cells #[.int .i64 s.n] 3)) hg9 (fun j hj => (HB.out j hj).1) (by have := B.size; simp; omega)
     have HO9 : Hid (w9.ownsRow w.heap.size 3 1 (.slice a9 (openN l (k + 1)).length cap9) (openN l (k + 1)).length ((openN l (k + 1)).map (Value.int .i64))) := by
      show World.ownsRow _ _ _ _ _ _ _
      rw [show (openN l (k + 1)).map (Value.int .i64) = (openN l k).map (Value.int .i64) ++ [.int .i64 s.n] from by rw [HS.out, List.map_append]; rfl]
      exact hown9
     clear hown9 hg9 HR hx
     go_wp2_with fail
     go_roundw
     case rel => exact ⟨k + 1, a9, cap9, by omega, by go_num, rfl, HO9.out, B9⟩
     case measure => simp [intOf]; omega
    | false =>
     have HS := Lh (openN_no hs ho)
     rw [ho] at hx B1
     clear hs
     go_wp2_with fail
     go_roundw
     case rel => exact ⟨k + 1, a, cap, by omega, by go_num, by rw [HS.out], by rw [HS.out]; exact HK.out.alloc _, B1⟩
     case measure => simp [intOf]; omega
  · obtain rfl : k = 16 := by omega
    have hown := HK.out
    have HND := Lh (show nodesOf l = Lib.compact ((openN l 16).mergeSort fun x y => decide (x ≤ y)) from rfl)
    have hlw := B.size
    clear HK HB HX hsz HL
    generalize openN l 16 = xs at *
    by_cases hm : xs = []
    · subst hm
      have HS := Lh (Tryz.slices_Sort_int_none a cap wr)
      have HC := Lh (Tryz.slices_Compact_int_empty a cap wr)
      have HZ : Hid (nodesOf l = []) := by
       show _ = _
       rw [HND.out]; decide +kernel
      clear hown
      go_wp2_with fail
      refine HS.out.mono ?_
      rintro e w1 ⟨rfl, hw⟩
      subst hw
      go_wp2_with fail
      refine HC.out.mono ?_
      rintro e w1 ⟨rfl, hw⟩
      subst hw
      go_wp2_with fail
      go_ret
      exact ⟨a, cap, by rw [HZ.out]; rfl, by rw [HZ.out]; exact .inl rfl, B⟩
    · have hpos : 0 < xs.length := List.length_pos_iff.2 hm
      rcases hown.2 with ⟨_, h0⟩ | ⟨g, cap', cur, hv, hg, hb, h1, h2, h3, h4⟩
      · omega
      injection hv with hv1 _ hv3
      subst hv1 hv3
      obtain ⟨ys, hys⟩ : ∃ ys, ys = xs.mergeSort (fun x y => decide (x ≤ y)) := ⟨_, rfl⟩
      have hyl : ys.length = xs.length := by rw [hys, List.length_mergeSort]
      have HS := Lh (Tryz.slices_Sort_int g 0 cap xs wr (holds_of_blockI hb (by rw [Nat.mul_one] at h4; exact h4)) (Array.getElem?_eq_some_iff.1 hb).1 (by omega))
      rw [← hys] at HS HND
      have HO : Hid (∀ n os, (grow (putRow (Value.int .i64) (Sort.ahead wr n) g 0 ys.toArray) os).ownsRow w.heap.size 3 1 (.slice (some ⟨g, 0, none⟩) xs.length cap) xs.length (ys.map (Value.int .i64))) := fun n os => ownsRow_sortedI hyl hg hb h1 h2 h3
      have HG : Hid (∀ n os, wr.grownBy (grow (putRow (Value.int .i64) (Sort.ahead wr n) g 0 ys.toArray) os) (some g)) := fun n os => grownBy_sortedI _
      clear hown h4 hb hys h3 hm
      go_wp2_with fail
      refine HS.out.mono ?_
      rintro e w1 ⟨rfl, n, os, hw⟩
      have hO := HO.out n os
      have hG := HG.out n os
      rw [← hw] at hO hG
      clear hw HS HO HG
      have B1 := grown_below4 B hG (fun j hj => by injection hj with hj; omega) B.size
      rcases hO.2 with ⟨h0, _⟩ | ⟨g', cap', cur1, hv, _, hb1, _, _, h3, h4⟩
      · cases h0
      injection hv with hv1 _ hv3
      injection hv1 with hv1
      injection hv1 with hv1
      subst hv1 hv3
      have hCc := Tryz.slices_Compact_int g 0 cap ys w1 (holds_of_blockI hb1 (by rw [Nat.mul_one, ← hyl] at h4; exact h4)) (by omega) (by omega)
      rw [hyl] at hCc
      have HC := Lh hCc
      have hcl := Lib.compact_length_le ys
      obtain ⟨zs, hzs⟩ : ∃ zs, zs = Lib.compact ys := ⟨_, rfl⟩
      rw [← hzs] at HC HND hcl
      have HF : Hid (∀ q, RowAt (putRow (Value.int .i64) (Sort.ahead w1 q) g 0 (zs ++ List.replicate (xs.length - zs.length) 0).toArray) g (zs.map (Value.int .i64)) ∧ w1.grownBy (putRow (Value.int .i64) (Sort.ahead w1 q) g 0 (zs ++ List.replicate (xs.length - zs.length) 0).toArray) (some g)) := by
       intro q
       have e1 := heap_sortedI (n := q) (os := #[]) (zs ++ List.replicate (xs.length - zs.length) 0).toArray hb1
       have e2 := grownBy_sortedI (w := w1) (g := g) (n := q) (os := #[]) (zs ++ List.replicate (xs.length - zs.length) 0).toArray
       rw [grow_empty] at e1 e2
       refine ⟨?_, e2⟩
       have e3 := take_putCellsI cur1 (zs ++ List.replicate (xs.length - zs.length) 0) (by simp; omega)
       refine ⟨_, _, 0, 0, e1, fun i hi => ?_, fun i hi => by omega⟩
       rw [← Array.getElem?_toList]
       have hi' : i < zs.length := by simpa using hi
       have e4 : ((putCells (Value.int .i64) 0 (zs ++ List.replicate (xs.length - zs.length) 0).toArray cur1).toList.take (zs ++ List.replicate (xs.length - zs.length) 0).length)[i]? = ((zs ++ List.replicate (xs.length - zs.length) 0).map (Value.int .i64))[i]? := by rw [e3]
       rw [List.getElem?_take_of_lt (by simp; omega), List.map_append, List.getElem?_append_left (by simpa using hi')] at e4
       exact e4
      clear hO hb1 h4 hCc hzs
      go_wp2_with fail
      refine HC.out.mono ?_
      rintro e w2 ⟨rfl, q, hw⟩
      obtain ⟨f1, f2⟩ := HF.out q
      rw [← hw] at f1 f2
      have B2 := grown_below4 B1 f2 (fun j hj => by injection hj with hj; omega) B1.size
      clear hw HF HC
      go_wp2_with fail
      go_ret
      exact ⟨_, cap, by rw [HND.out]; rfl, by rw [HND.out]; exact .inr ⟨g, rfl, hg, f1⟩, B2⟩
end Go.Proofs.YtppdihpobokfnaaGreatDoor
set_option linter.unusedVariables false
set_option linter.unusedSimpArgs false
set_option maxRecDepth 100000
namespace Go.Proofs.YtppdihpobokfnaaGreatDoor
open Go.RowKit Go.Joins Go.Sort
end Go.Proofs.YtppdihpobokfnaaGreatDoor
set_option linter.unusedVariables false
set_option linter.unusedSimpArgs false
set_option maxRecDepth 100000
namespace Go.Proofs.YtppdihpobokfnaaGreatDoor
open Go.RowKit Go.Joins
end Go.Proofs.YtppdihpobokfnaaGreatDoor
