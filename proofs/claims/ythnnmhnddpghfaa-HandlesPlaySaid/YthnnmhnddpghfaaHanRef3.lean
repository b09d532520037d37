/- Walks: the document's table of descriptors: Has. -/
import Derived.Test.YthnnmhnddpghfaaHanRef2
set_option linter.unusedVariables false
set_option linter.unusedSimpArgs false
set_option maxRecDepth 100000
namespace Go.Proofs.Ythnnmhnddpghfaa
open Go.RowKit Go.Joins

def rnP (n : Int) (x : Rf) : Bool := x.n == n
def rHas (l : List Rf) (n : Int) : Bool := l.any (rnP n)
theorem rHas_yes {l : List Rf} {n : Int} {k : Nat} {x : Rf} (hx : l[k]? = some x) (h : (x.n == n) = true) : rHas l n = true := by
  rw [rHas, List.any_eq_true]
  exact ⟨x, List.mem_of_getElem? hx, h⟩
theorem rHas_no {l : List Rf} {n : Int} (h : ∀ j < l.length, ∃ x, l[j]? = some x ∧ (x.n == n) = false) : rHas l n = false := by
  rw [rHas, List.any_eq_false]
  intro x hx
  obtain ⟨j, hj, e⟩ := List.getElem_of_mem hx
  obtain ⟨y, h1, h2⟩ := h j hj
  rw [List.getElem?_eq_getElem hj, e] at h1
  injection h1 with h1
  rw [h1, rnP, h2]; simp

set_option maxHeartbeats 2000000 in
theorem rhas (R : Nat) (l : List Rf) (n : Int) (w : World) (h : RT w R l) (hn : l.length ≤ 1000) :
    Calls Try.prog 20 #[.pointer (some ⟨R, 0, none⟩), .int .i64 n] w fun e w' => e = .returned (.bool (rHas l n)) ∧ w = w' := by
  obtain ⟨a, cap, hc, hV⟩ := h
  have HV := Lib.hid hV
  clear hV
  go_enter Try.func20, Try.ntmps20
  go_wp2_with fail
  go_loopw [5] (fun jj wr => ∃ k : Nat, k ≤ l.length ∧ jj = .int .i64 k ∧ wr = w ∧ ∀ j < k, ∃ x, l[j]? = some x ∧ (x.n == n) = false) (fun jj _ => l.length - (intOf jj).toNat)
  case atStart => exact ⟨0, by omega, rfl, rfl, fun j hj => by omega⟩
  case round =>
    obtain ⟨k, hk, rfl, rfl, hN⟩ := hrel
    have HN := Lib.hid hN
    clear hN
    by_cases hlt : k < l.length
    · obtain ⟨x, hx⟩ : ∃ x, l[k]? = some x := ⟨_, List.getElem?_eq_getElem hlt⟩
      obtain ⟨P, o, rfl, hP, c0, c1, c2⟩ := rf_cells HV.out hx
      have h1 : (k : Int) < (l.length : Int) := by omega
      have HX := Lib.hid hx
      clear hx
      cases hq : (x.n == n) with
      | true =>
        have hE := Lib.hid (rHas_yes HX.out hq)
        go_wp2_with fail
        go_ret
        exact ⟨by rw [hE.out]; rfl, rfl⟩
      | false =>
        have HQ := Lib.hid hq
        go_wp2_with fail
        go_roundw
        case rel => exact ⟨k + 1, by omega, by go_num, trivial, fun j hj => by
          by_cases e : j = k
          · subst e; exact ⟨x, HX.out, HQ.out⟩
          · exact HN.out j (by omega)⟩
        case measure => simp [intOf]; omega
    · obtain rfl : k = l.length := by omega
      have hE := Lib.hid (rHas_no HN.out)
      go_wp2_with fail
      go_ret
      exact ⟨by rw [hE.out]; rfl, rfl⟩

end Go.Proofs.Ythnnmhnddpghfaa
