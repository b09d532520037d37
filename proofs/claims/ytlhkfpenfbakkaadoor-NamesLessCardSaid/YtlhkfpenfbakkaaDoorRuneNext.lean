/- A text's runes, one behind the other, at whatever world the iterator lies in; what a rune beyond ASCII skips. No function in sight. -/
import Derived.Test.YtlhkfpenfbakkaaDoorMem
import Derived.Laws.RangeAny
set_option linter.unusedVariables false
set_option linter.unusedSimpArgs false
namespace Go.Proofs.YtlhkfpenfbakkaaDoor
open Go Go.RowKit

theorem next_any {P : Program} (W : World) (k : Nat) (s : ByteArray) (pos : Nat) (h : W.heap[k]? = some (.stringIter s pos)) (hp : pos < s.size) :
    ∃ W', (∀ ty, (Instr.next (.pointer (some ⟨k, 0, none⟩)) true ty).run P W = .ok (.tuple #[.bool true, .int .i64 pos, .int .i32 (Utf8.decode s pos).1]) W') ∧ W'.heap[k]? = some (.stringIter s (pos + (Utf8.decode s pos).2)) ∧ Below k W W' := by
  refine ⟨{ W with heap := W.heap.setIfInBounds k (.stringIter s (pos + (Utf8.decode s pos).2)) }, fun ty => ?_, ?_, ⟨rfl, rfl, rfl, by simp, fun j hj => ?_⟩⟩
  · simp only [Instr.next, getObj, setObj, Sem.run_bind, Sem.run, h, Result.andThen, hp, if_true]
    simp [goInt, Sem.run, h]
  · have hk : k < W.heap.size := (Array.getElem?_eq_some_iff.1 h).1
    simp [hk]
  · simp only
    rw [Array.getElem?_setIfInBounds_ne (by omega)]

theorem next_end {P : Program} (W : World) (k : Nat) (s : ByteArray) (pos : Nat) (h : W.heap[k]? = some (.stringIter s pos)) (hp : ¬ pos < s.size) :
    ∀ ty, (Instr.next (.pointer (some ⟨k, 0, none⟩)) true ty).run P W = .ok (.tuple #[.bool false]) W := by
  intro ty
  simp [Instr.next, getObj, Sem.run, h, hp]

/-- the bytes that a rune beyond ASCII skips are beyond ASCII -/
theorem decode_skip (s : ByteArray) (pos : Nat) (h : pos < s.size) (ha : 128 ≤ (s[pos]'h).toNat) : ∀ j, j < (Utf8.decode s pos).2 → 128 ≤ (s.get! (pos + j)).toNat := by
  have hn : ¬ (s[pos]'h).toNat < 128 := by omega
  have h0 : 128 ≤ (s.get! (pos + 0)).toNat := by rw [get_at s pos h]; exact ha
  intro j
  simp only [Utf8.decode, get_at s pos h, hn, if_false]
  repeat' split
  all_goals
    intro hj
    try simp only [Bool.and_eq_true, beq_iff_eq, decide_eq_true_eq, ge_iff_le] at *
    have hj4 : j = 0 ∨ j = 1 ∨ j = 2 ∨ j = 3 := by omega
    rcases hj4 with rfl | rfl | rfl | rfl <;> omega

/-- a rune lies within its text -/
theorem decode_fit (s : ByteArray) (pos : Nat) (h : pos < s.size) (ha : 128 ≤ (s[pos]'h).toNat) : pos + (Utf8.decode s pos).2 ≤ s.size := by
  have hn : ¬ (s[pos]'h).toNat < 128 := by omega
  simp only [Utf8.decode, get_at s pos h, hn, if_false]
  repeat' split
  all_goals
    try simp only [Bool.and_eq_true, beq_iff_eq, decide_eq_true_eq, ge_iff_le] at *
    omega

end Go.Proofs.YtlhkfpenfbakkaaDoor
