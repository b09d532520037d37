/- Walks: the document's table of descriptors: the place of a descriptor. -/
import Derived.Test.YthnnmhnddpghfaaHanWalks5
import Derived.Test.YthnnmhnddpghfaaGotActs
set_option linter.unusedVariables false
set_option linter.unusedSimpArgs false
set_option maxRecDepth 100000
namespace Go.Proofs.Ythnnmhnddpghfaa
open Go.RowKit Go.Joins

/-- a descriptor that is open, as the document has it -/
structure Rf where
  f : Int
  n : Int
  a : Int
def Rf.v (x : Rf) : Value × Value × Value := (.int .i64 x.f, .int .i64 x.n, .int .i64 x.a)

/-- the document's table at block R -/
def RT (W : World) (R : Nat) (l : List Rf) : Prop := ∃ a cap, W.cell? ⟨R, 0, none⟩ = some (.slice a l.length cap) ∧ Val3 W a (l.map Rf.v)

/-- the place of a descriptor -/
def rAt (l : List Rf) (fd : Int) : Int := match l.findIdx? (fun x => x.f == fd) with
  | some i => (i : Int)
  | none => -1
theorem rAt_none {l : List Rf} {fd : Int} (h : ∀ j < l.length, ∃ x, l[j]? = some x ∧ x.f ≠ fd) : rAt l fd = -1 := by
  have : l.findIdx? (fun x => x.f == fd) = none := by
    rw [List.findIdx?_eq_none_iff]
    intro x hx
    obtain ⟨j, hj, e⟩ := List.getElem_of_mem hx
    obtain ⟨y, h1, h2⟩ := h j hj
    rw [List.getElem?_eq_getElem hj, e] at h1
    injection h1 with h1
    rw [h1]; simpa using h2
  rw [rAt, this]
theorem rAt_some {l : List Rf} {fd : Int} {k : Nat} {x : Rf} (hx : l[k]? = some x) (he : x.f = fd) (h : ∀ j < k, ∃ x, l[j]? = some x ∧ x.f ≠ fd) : rAt l fd = k := by
  have : l.findIdx? (fun x => x.f == fd) = some k := by
    obtain ⟨hk, e⟩ := List.getElem?_eq_some_iff.1 hx
    rw [List.findIdx?_eq_some_iff_getElem]
    refine ⟨hk, by rw [e]; simpa using he, fun j hj => ?_⟩
    obtain ⟨y, h1, h2⟩ := h j hj
    rw [List.getElem?_eq_getElem (by omega)] at h1
    injection h1 with h1
    rw [h1]; simpa using h2
  rw [rAt, this]

theorem rf_cells {w : World} {a : Option Addr} {l : List Rf} {k : Nat} {x : Rf} (h : Val3 w a (l.map Rf.v)) (hx : l[k]? = some x) : ∃ B o, a = some ⟨B, o, none⟩ ∧ B < w.heap.size ∧ w.cell? ⟨B, o + k * 3, none⟩ = some (.int .i64 x.f) ∧ w.cell? ⟨B, o + k * 3 + 1, none⟩ = some (.int .i64 x.n) ∧ w.cell? ⟨B, o + k * 3 + 2, none⟩ = some (.int .i64 x.a) := by
  rcases h with h | ⟨B, o, e, hb, h⟩
  · have := (List.getElem?_eq_some_iff.1 hx).1
    rw [List.map_eq_nil_iff] at h
    rw [h] at this
    simp at this
  · obtain ⟨c0, c1, c2⟩ := h k x.v (by rw [List.getElem?_map, hx]; rfl)
    exact ⟨B, o, e, hb, c0, c1, c2⟩

set_option maxHeartbeats 2000000 in
theorem rat (R : Nat) (l : List Rf) (fd : Int) (w : World) (h : RT w R l) (hn : l.length ≤ 1000) :
    Calls Try.prog 30 #[.pointer (some ⟨R, 0, none⟩), .int .i64 fd] w fun e w' => e = .returned (.int .i64 (rAt l fd)) ∧ w = w' := by
  obtain ⟨a, cap, hc, hV⟩ := h
  have HV := Lib.hid hV
  clear hV
  go_enter Try.func30, Try.ntmps30
  go_wp2_with fail
  go_loopw [5] (fun jj wr => ∃ k : Nat, k ≤ l.length ∧ jj = .int .i64 k ∧ wr = w ∧ ∀ j < k, ∃ x, l[j]? = some x ∧ x.f ≠ fd) (fun jj _ => l.length - (intOf jj).toNat)
  case atStart => exact ⟨0, by omega, rfl, rfl, fun j hj => by omega⟩
  case round =>
    obtain ⟨k, hk, rfl, rfl, hN⟩ := hrel
    have HN := Lib.hid hN
    clear hN
    by_cases hlt : k < l.length
    · obtain ⟨x, hx⟩ : ∃ x, l[k]? = some x := ⟨_, List.getElem?_eq_getElem hlt⟩
      obtain ⟨P, o, rfl, hP, c0, c1, c2⟩ := rf_cells HV.out hx
      have h1 : (k : Int) < (l.length : Int) := by omega
      have HX := Lib.hid hx
      clear hx
      by_cases hq : x.f = fd
      · have hE := Lib.hid (rAt_some HX.out hq HN.out)
        have hq1 : (x.f == fd) = true := by simpa using hq
        clear hq
        go_wp2_with fail
        go_ret
        exact ⟨by rw [hE.out]; rfl, rfl⟩
      · have hq2 : (x.f == fd) = false := by simpa using hq
        have HQ := Lib.hid hq
        clear hq
        go_wp2_with fail
        go_roundw
        case rel => exact ⟨k + 1, by omega, by go_num, trivial, fun j hj => by
          by_cases e : j = k
          · subst e; exact ⟨x, HX.out, HQ.out⟩
          · exact HN.out j (by omega)⟩
        case measure => simp [intOf]; omega
    · obtain rfl : k = l.length := by omega
      have hE := Lib.hid (rAt_none HN.out)
      go_wp2_with fail
      go_ret
      exact ⟨by rw [hE.out]; rfl, rfl⟩

end Go.Proofs.Ythnnmhnddpghfaa
