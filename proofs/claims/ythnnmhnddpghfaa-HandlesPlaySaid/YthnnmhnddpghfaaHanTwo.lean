/- A table of descriptors beside another that grows; what Get answers. -/
import Derived.Test.YthnnmhnddpghfaaHanWalks6
import Derived.Test.YthnnmhnddpghfaaPlainHan2
set_option linter.unusedVariables false
set_option linter.unusedSimpArgs false
set_option maxRecDepth 100000
namespace Go.Proofs.Ythnnmhnddpghfaa
open Go.RowKit Go.Joins

theorem TabAt.grown {w w' : World} {K g : Nat} {m : Bool} {l : List Sl} (h : TabAt w g m l) (hg : w.grownBy w' (some K)) (hne : g ≠ K) : TabAt w' g m l := ⟨h.1, h.2.grown hg (fun q => hne (by injection q with q; exact q.symm))⟩
theorem NewS.grown {w w' : World} {K base : Nat} {a : Option Addr} {vs : List Value} (h : NewS w base a vs) (hg : w.grownBy w' (some K)) (hne : K < base) : NewS w' base a vs := by
  rcases h with h | ⟨g, e, h1, h2⟩
  · exact .inl h
  · exact .inr ⟨g, e, h1, h2.grown hg (fun q => by injection q with q; omega)⟩

/-- what Get answers -/
def tGet (T : List Sl) (fd : Int) : Int × Int × Int := match slotOf T fd with
  | none => (0, 0, 220)
  | some s => (s.n, s.a, 0)
theorem hget (K : Nat) (l : List Sl) (fd : Int) (w : World) (h : TabAt w K true l) :
    Calls Try.prog 11 #[.pointer (some ⟨K, 0, none⟩), .int .i64 fd] w fun e w' => e = .returned (.tuple #[.int .i64 (tGet l fd).1, .int .i64 (tGet l fd).2.1, .int .i64 (tGet l fd).2.2]) ∧ Below w.heap.size w w' := by
  cases hs : slotOf l fd with
  | none =>
    refine (hget_bad K l fd w h hs).mono ?_
    rintro e w1 ⟨rfl, rfl⟩
    rw [tGet, hs]
    exact ⟨rfl, Below.refl _ _⟩
  | some s =>
    refine (hget_ok K l fd s w h hs).mono ?_
    rintro e w1 ⟨rfl, hb⟩
    rw [tGet, hs]
    exact ⟨rfl, hb⟩

theorem act_cells {w : World} {a : Option Addr} {l : List Ac} {k : Nat} {x : Ac} (h : Val3 w a (l.map Ac.v)) (hx : l[k]? = some x) : ∃ B o, a = some ⟨B, o, none⟩ ∧ B < w.heap.size ∧ w.cell? ⟨B, o + k * 3, none⟩ = some (.int .u8 x.k) ∧ w.cell? ⟨B, o + k * 3 + 1, none⟩ = some (.int .i64 x.fd) ∧ w.cell? ⟨B, o + k * 3 + 2, none⟩ = some (.int .i64 x.n) := by
  rcases h with h | ⟨B, o, e, hb, h⟩
  · have := (List.getElem?_eq_some_iff.1 hx).1
    rw [List.map_eq_nil_iff] at h
    rw [h] at this
    simp at this
  · obtain ⟨c0, c1, c2⟩ := h k x.v (by rw [List.getElem?_map, hx]; rfl)
    exact ⟨B, o, e, hb, c0, c1, c2⟩

end Go.Proofs.Ythnnmhnddpghfaa
