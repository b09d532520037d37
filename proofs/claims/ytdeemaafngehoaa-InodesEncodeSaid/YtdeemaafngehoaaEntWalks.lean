/- Walks: may an entry be? -/
import Derived.Test.YtdeemaafngehoaaRows
import Derived.Test.YtdeemaafngehoaaMem
import Derived.WalkKit
import Derived.WalkSpells
import Derived.WalkLawsBesides
import Derived.Lib.Hide
import Derived.Test.YtdeemaafngehoaaAid
set_option linter.unusedVariables false
set_option linter.unusedSimpArgs false
set_option maxRecDepth 100000
namespace Go.Proofs.Ytdeemaafngehoaa
open Go.RowKit Go.Joins

abbrev ev (l p n : Int) : Value := .agg #[.int .i64 l, .int .i64 p, .int .i64 n]

/-- may an entry be? -/
def entOk (l p n : Int) (leaf : Bool) : Bool :=
  if leaf then decide (1 ≤ n) && (decide (n ≤ 4096) && (decide (0 ≤ l) && (decide (l ≤ 2048 - n) && (decide (1 ≤ p) && decide (p ≤ 4096 - n)))))
  else decide (n = 0) && (decide (0 ≤ l) && (decide (l ≤ 2047) && (decide (1 ≤ p) && decide (p ≤ 4095))))

theorem entOk_leaf {l p n : Int} : entOk l p n true = true ↔ 1 ≤ n ∧ n ≤ 4096 ∧ 0 ≤ l ∧ l ≤ 2048 - n ∧ 1 ≤ p ∧ p ≤ 4096 - n := by
  simp [entOk]
theorem entOk_node {l p n : Int} : entOk l p n false = true ↔ n = 0 ∧ 0 ≤ l ∧ l ≤ 2047 ∧ 1 ≤ p ∧ p ≤ 4095 := by
  simp [entOk]

set_option maxHeartbeats 1000000 in
theorem may_leaf (l p n : Int) (w : World) :
    Calls Try.prog 74 #[ev l p n, .bool true] w fun e w' => e = .returned (.bool (entOk l p n true)) ∧ Below w.heap.size w w' := by
  go_enter Try.func74, Try.ntmps74
  go_wp2
  all_goals
    go_ret
    refine ⟨congrArg Ending.returned (congrArg Value.bool ?_), (Below.refl _ _).alloc (Nat.le_refl _) _⟩
    rw [Bool.eq_iff_iff, entOk_leaf]
    first | (simp; omega) | simp | omega

set_option maxHeartbeats 1000000 in
theorem may_node (l p n : Int) (w : World) :
    Calls Try.prog 74 #[ev l p n, .bool false] w fun e w' => e = .returned (.bool (entOk l p n false)) ∧ Below w.heap.size w w' := by
  go_enter Try.func74, Try.ntmps74
  go_wp2
  all_goals
    go_ret
    refine ⟨congrArg Ending.returned (congrArg Value.bool ?_), (Below.refl _ _).alloc (Nat.le_refl _) _⟩
    simp only [bne_iff_ne, ne_eq, bne_eq_false_iff_eq] at *
    rw [Bool.eq_iff_iff, entOk_node]
    first | (simp; done) | (simp; omega) | omega

theorem may_any (l p n : Int) (leaf : Bool) (w : World) :
    Calls Try.prog 74 #[ev l p n, .bool leaf] w fun e w' => e = .returned (.bool (entOk l p n leaf)) ∧ Below w.heap.size w w' := by
  cases leaf
  · exact may_node l p n w
  · exact may_leaf l p n w

end Go.Proofs.Ytdeemaafngehoaa
