/- Plain facts on a table of descriptors that is played with. No program in sight. -/
import Derived.Test.YthnnmhnddpghfaaHanWalks5
import Derived.Test.YthnnmhnddpghfaaGotActs
set_option linter.unusedVariables false
set_option linter.unusedSimpArgs false
namespace Go.Proofs.Ythnnmhnddpghfaa
open Go.RowKit Go.Joins

def playT (T : List Sl) (l : List Ac) : List Sl := l.foldl (fun T z => tDoes T z.k z.fd z.n) T
theorem playT_snoc {T : List Sl} {l : List Ac} {k : Nat} {x : Ac} (h : l[k]? = some x) : playT T (l.take (k + 1)) = tDoes (playT T (l.take k)) x.k x.fd x.n := by
  obtain ⟨hk, e⟩ := List.getElem?_eq_some_iff.1 h
  rw [List.take_succ_eq_append_getElem hk, playT, List.foldl_append, e]
  rfl

theorem slotOf_set {T : List Sl} {fd : Int} {s : Sl} {j : Nat} (y : Sl) (h : slotOf T fd = some s) (hj : j ≠ fd.toNat) : slotOf (T.set j y) fd = some s := by
  obtain ⟨h0, h1, h2, h3⟩ := slotOf_some h
  rw [slotOf, if_pos ⟨h0, h1⟩, List.getElem?_set_ne hj, h2]
  simp [Option.filter, h3]

theorem keep_does {T : List Sl} {fd : Int} {s : Sl} {k f n : Int} (h : slotOf T fd = some s) (hc : k % 3 = 0 ∨ f ≠ fd) : slotOf (tDoes T k f n) fd = some s := by
  obtain ⟨h0, h1, h2, h3⟩ := slotOf_some h
  unfold tDoes
  split
  · unfold tOpen
    split
    · exact h
    · split
      · rename_i j hj
        obtain ⟨_, ⟨y, hy, ho⟩, _⟩ := free_some hj
        refine slotOf_set _ h fun e => ?_
        rw [e, h2] at hy
        injection hy with hy
        rw [← hy, h3] at ho
        cases ho
      · exact h
  · rename_i hk
    have hf : f ≠ fd := by rcases hc with c | c; exact absurd c hk; exact c
    split
    · unfold tClose
      split
      · exact h
      · rename_i y hy
        obtain ⟨g0, g1, _, _⟩ := slotOf_some hy
        exact slotOf_set _ h (by omega)
    · unfold tSeek
      split
      · exact h
      · rename_i y hy
        obtain ⟨g0, g1, _, _⟩ := slotOf_some hy
        split
        · exact h
        · exact slotOf_set _ h (by omega)

theorem slot_has {T : List Sl} {fd : Int} {s : Sl} (h : slotOf T fd = some s) : tHas T s.n = true := by
  obtain ⟨h0, h1, h2, h3⟩ := slotOf_some h
  rw [tHas, List.any_eq_true]
  exact ⟨s, List.mem_of_getElem? h2, by simp [hasP, h3]⟩

end Go.Proofs.Ythnnmhnddpghfaa
