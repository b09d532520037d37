/- Walks: what is masked, and unmasked. -/
import Derived.Test.YtfgnemddamebaaaPlainRec2
import Derived.Test.YtfgnemddamebaaaRows
import Derived.Test.YtfgnemddamebaaaShelf
import Derived.Test.YtfgnemddamebaaaAid
import Derived.WalkKit
import Derived.WalkSpells
import Derived.WalkLawsBesides
import Derived.Lib.Hide
set_option linter.unusedVariables false
set_option linter.unusedSimpArgs false
set_option maxRecDepth 100000
namespace Go.Proofs.Ytfgnemddamebaaa
open Go.RowKit Go.Joins

abbrev magB : ByteArray := ⟨#[71, 76, 74, 119]⟩
abbrev nulB : ByteArray := ⟨#[0, 0, 0, 0]⟩
/-- do bytes begin with the magic? -/
def magic (s : ByteArray) : Bool := Lib.hasPrefix s.data.toList magB.data.toList
theorem magic_iff (s : ByteArray) : magic s = true ↔ 4 ≤ s.size ∧ s.extract 0 4 = magB := by
  have h := Lib.hasPrefix_raw s magB
  rw [magic, ← h, Bool.and_eq_true, decide_eq_true_eq]
  show 4 ≤ s.size ∧ ((s.extract 0 4).toList == magB.toList) = true ↔ _
  rw [show (((s.extract 0 4).toList == magB.toList) = true ↔ s.extract 0 4 = magB) from by
    rw [← beq_toListBytes, show (s.extract 0 4 == magB) = ((s.extract 0 4).data == magB.data) by generalize s.extract 0 4 = a; cases a; rfl, beq_iff_eq]
    exact ⟨ByteArray.ext, congrArg _⟩]
theorem magic_test (s : ByteArray) (h : 4 ≤ s.size) : ((s.extract 0 4).toList == magB.toList) = magic s := by
  have h2 := Lib.hasPrefix_raw s magB
  rw [magic, ← h2, show decide (magB.size ≤ s.size) = true from decide_eq_true h, Bool.true_and]
  rfl
theorem magic_test2 (s : ByteArray) (h : 4 ≤ s.size) : ((s.extract 0 4).toList == [71, 76, 74, 119]) = magic s := by
  rw [← magic_test s h, show magB.toList = [71, 76, 74, 119] from by decide +kernel]
/-- bytes without the first four -/
def rest4 (s : ByteArray) : ByteArray := s.extract 4 s.size
theorem magic_rest {s : ByteArray} (h : magic s = true) : (⟨(Lib.trimPrefix s.data.toList magB.data.toList).toArray⟩ : ByteArray) = rest4 s := by
  rw [Lib.trimPrefix, show Lib.hasPrefix s.data.toList magB.data.toList = true from h, if_pos rfl]
  apply ByteArray.ext
  apply Array.toList_inj.1
  rw [rest4, ByteArray.data_extract, Array.toList_extract]
  show s.data.toList.drop 4 = _
  simp [List.extract]
  exact (List.take_of_length_le (by simp)).symm
theorem magic_none {s : ByteArray} (h : magic s = false) : (⟨(Lib.trimPrefix s.data.toList magB.data.toList).toArray⟩ : ByteArray) = s := by
  rw [Lib.trimPrefix, show Lib.hasPrefix s.data.toList magB.data.toList = false from h]
  simp

theorem cutp_yes (s : ByteArray) (h : magic s = true) (W : World) :
    Calls Try.prog 38 #[.string s, .string magB] W fun e w' => e = .returned (.tuple #[.string (rest4 s), .bool true]) ∧ W = w' := by
  have := Try.strings_CutPrefix s magB W
  rw [magic_rest h, show Lib.hasPrefix s.data.toList magB.data.toList = true from h] at this
  exact this.mono fun e w' q => ⟨q.1, q.2.symm⟩
theorem cutp_no (s : ByteArray) (h : magic s = false) (W : World) :
    Calls Try.prog 38 #[.string s, .string magB] W fun e w' => e = .returned (.tuple #[.string s, .bool false]) ∧ W = w' := by
  have := Try.strings_CutPrefix s magB W
  rw [magic_none h, show Lib.hasPrefix s.data.toList magB.data.toList = false from h] at this
  exact this.mono fun e w' q => ⟨q.1, q.2.symm⟩

theorem rest4_eq (s : ByteArray) : s.extract 4 s.size = rest4 s := rfl

theorem mask_yes (s : ByteArray) (w : World) (hs : s.size ≤ maxLen) (h : magic s = true) :
    Calls Try.prog 17 #[.string s] w fun e w' => e = .returned (.tuple #[.string (nulB ++ rest4 s), .bool true]) ∧ w = w' := by
  have hs' := hs
  unfold maxLen at hs'
  have H := Lib.hid (cutp_yes s h)
  have h4 := ((magic_iff s).1 h).1
  have hl : 4 + (rest4 s).size ≤ 9223372036854775807 := by rw [rest4, ByteArray.size_extract]; omega
  clear h4
  clear h
  generalize rest4 s = r at *
  go_enter Try.func17, Try.ntmps17
  go_wp2_with fail
  refine (H.out _).mono ?_
  rintro e w2 ⟨rfl, rfl⟩
  go_wp2_with fail
  go_ret2
  exact ⟨rfl, rfl⟩

theorem mask_no (s : ByteArray) (w : World) (h : magic s = false) :
    Calls Try.prog 17 #[.string s] w fun e w' => e = .returned (.tuple #[.string s, .bool false]) ∧ w = w' := by
  have H := Lib.hid (cutp_no s h)
  clear h
  go_enter Try.func17, Try.ntmps17
  go_wp2_with fail
  refine (H.out _).mono ?_
  rintro e w2 ⟨rfl, rfl⟩
  go_wp2_with fail
  go_ret2
  exact ⟨rfl, rfl⟩

theorem unmask_yes (s : ByteArray) (w : World) (hs : s.size ≤ maxLen) (h : 4 ≤ s.size) :
    Calls Try.prog 19 #[.string s] w fun e w' => e = .returned (.string (magB ++ rest4 s)) ∧ w = w' := by
  unfold maxLen at hs
  have h1 : ¬ s.size < 4 := by omega
  go_enter Try.func19, Try.ntmps19
  go_wp2
  go_ret
  exact ⟨rfl, rfl⟩

theorem unmask_no (s : ByteArray) (w : World) (h : s.size < 4) :
    Calls Try.prog 19 #[.string s] w fun e w' => e = .returned (.string s) ∧ w = w' := by
  go_enter Try.func19, Try.ntmps19
  go_wp2
  go_ret
  exact ⟨rfl, rfl⟩

end Go.Proofs.Ytfgnemddamebaaa
