/- Walks: what is masked, and unmasked: the document's answers. -/
import Derived.Test.YtfgnemddamebaaaRecMask
set_option linter.unusedVariables false
set_option linter.unusedSimpArgs false
set_option maxRecDepth 100000
namespace Go.Proofs.Ytfgnemddamebaaa
open Go.RowKit Go.Joins

theorem rmask_yes (s : ByteArray) (w : World) (hs : s.size ≤ maxLen) (h : magic s = true) :
    Calls Try.prog 18 #[.string s] w fun e w' => e = .returned (.tuple #[.string (nulB ++ rest4 s), .bool true]) ∧ w = w' := by
  unfold maxLen at hs
  have h4 := ((magic_iff s).1 h).1
  have ht := magic_test2 s h4
  rw [h] at ht
  clear h
  go_enter Try.func18, Try.ntmps18
  go_wp2
  go_ret2
  exact ⟨rfl, rfl⟩

theorem rmask_no (s : ByteArray) (w : World) (hs : s.size ≤ maxLen) (h : magic s = false) :
    Calls Try.prog 18 #[.string s] w fun e w' => e = .returned (.tuple #[.string s, .bool false]) ∧ w = w' := by
  unfold maxLen at hs
  by_cases h4 : 4 ≤ s.size
  · have ht := magic_test2 s h4
    rw [h] at ht
    clear h
    go_enter Try.func18, Try.ntmps18
    go_wp2
    go_ret2
    exact ⟨rfl, rfl⟩
  · have h5 : s.size < 4 := by omega
    clear h h4
    go_enter Try.func18, Try.ntmps18
    go_wp2
    go_ret2
    exact ⟨rfl, rfl⟩

theorem runmask_yes (s : ByteArray) (w : World) (hs : s.size ≤ maxLen) (h : 4 ≤ s.size) :
    Calls Try.prog 20 #[.string s] w fun e w' => e = .returned (.string (magB ++ rest4 s)) ∧ w = w' := by
  unfold maxLen at hs
  have h1 : ¬ s.size < 4 := by omega
  go_enter Try.func20, Try.ntmps20
  go_wp2
  go_ret
  exact ⟨rfl, rfl⟩

theorem runmask_no (s : ByteArray) (w : World) (h : s.size < 4) :
    Calls Try.prog 20 #[.string s] w fun e w' => e = .returned (.string s) ∧ w = w' := by
  go_enter Try.func20, Try.ntmps20
  go_wp2
  go_ret
  exact ⟨rfl, rfl⟩

end Go.Proofs.Ytfgnemddamebaaa
