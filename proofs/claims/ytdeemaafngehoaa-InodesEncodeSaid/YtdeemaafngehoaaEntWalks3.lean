/- Walks: the document's answer: may entries be? -/
import Derived.Test.YtdeemaafngehoaaEntWalks2
set_option linter.unusedVariables false
set_option linter.unusedSimpArgs false
set_option maxRecDepth 100000
namespace Go.Proofs.Ytdeemaafngehoaa
open Go.RowKit Go.Joins

set_option maxHeartbeats 1000000 in
theorem rmay_leaf (l p n : Int) (w : World) :
    Calls Try.prog 75 #[ev l p n, .bool true] w fun e w' => e = .returned (.bool (entOk l p n true)) ∧ Below w.heap.size w w' := by
  go_enter Try.func75, Try.ntmps75
  go_wp2
  all_goals
    go_ret
    refine ⟨congrArg Ending.returned (congrArg Value.bool ?_), (Below.refl _ _).alloc (Nat.le_refl _) _⟩
    rw [Bool.eq_iff_iff, entOk_leaf]
    first | (simp; done) | (simp; omega) | omega

set_option maxHeartbeats 1000000 in
theorem rmay_node (l p n : Int) (w : World) :
    Calls Try.prog 75 #[ev l p n, .bool false] w fun e w' => e = .returned (.bool (entOk l p n false)) ∧ Below w.heap.size w w' := by
  go_enter Try.func75, Try.ntmps75
  by_cases hn : n = 0
  · subst hn
    go_wp2
    all_goals
      go_ret
      refine ⟨congrArg Ending.returned (congrArg Value.bool ?_), (Below.refl _ _).alloc (Nat.le_refl _) _⟩
      rw [Bool.eq_iff_iff, entOk_node]
      first | (simp; done) | (simp; omega) | omega
  · have hn2 : (n != 0) = true := by simpa using hn
    go_wp2
    all_goals
      go_ret
      refine ⟨congrArg Ending.returned (congrArg Value.bool ?_), (Below.refl _ _).alloc (Nat.le_refl _) _⟩
      rw [Bool.eq_iff_iff, entOk_node]
      first | (simp; done) | (simp; omega) | omega

theorem rmay_any (l p n : Int) (leaf : Bool) (w : World) :
    Calls Try.prog 75 #[ev l p n, .bool leaf] w fun e w' => e = .returned (.bool (entOk l p n leaf)) ∧ Below w.heap.size w w' := by
  cases leaf
  · exact rmay_node l p n w
  · exact rmay_leaf l p n w

end Go.Proofs.Ytdeemaafngehoaa
