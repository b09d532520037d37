/- Walks: a table that is none. -/
import Derived.Test.YthnnmhnddpghfaaHanWalks4
import Derived.BigQuiet
import Derived.Deep.QuietTactic
set_option linter.unusedVariables false
set_option linter.unusedSimpArgs false
set_option maxRecDepth 100000
namespace Go.Proofs.Ythnnmhnddpghfaa
open Go.RowKit Go.Joins

/-- a table that is none, in whatever world lies above -/
def NoneAt (p : Option Addr) (w : World) : Prop := ∀ W, Below w.heap.size w W → Calls Try.prog 27 #[.pointer p] W fun e w' => e = .returned (.bool true) ∧ W = w'
theorem NoneAt.below {p : Option Addr} {w w' : World} (h : NoneAt p w) (hb : Below w.heap.size w w') : NoneAt p w' := fun W hW => h W (below_chain hb hW hb.size)
theorem NoneAt.self {p : Option Addr} {w : World} (h : NoneAt p w) : Calls Try.prog 27 #[.pointer p] w fun e w' => e = .returned (.bool true) ∧ w = w' := h w (Below.refl _ _)
theorem noneAt_nil (w : World) : NoneAt none w := fun W _ => hnone_nil W
theorem noneAt_row {w : World} {K : Nat} {l : List Sl} (h : TabAt w K false l) : NoneAt (some ⟨K, 0, none⟩) w := fun W hb => hnone_row K false W (h.below hb (Nat.le_refl _)).head

set_option maxHeartbeats 1000000 in
theorem nopen (p : Option Addr) (n : Int) (w : World) (h : NoneAt p w) : Calls Try.prog 13 #[.pointer p, .int .i64 n] w fun e w' => e = .returned (.tuple #[.int .i64 0, .int .i64 1]) ∧ Below w.heap.size w w' := by
  have HN := Lib.hid h.self
  clear h
  go_enter Try.func13, Try.ntmps13
  go_wp2_with fail
  refine HN.out.mono ?_
  rintro e w1 ⟨rfl, rfl⟩
  go_wp2_with fail
  go_ret2
  exact ⟨rfl, Below.refl _ _⟩

set_option maxHeartbeats 1000000 in
theorem nget (p : Option Addr) (fd : Int) (w : World) (h : NoneAt p w) : Calls Try.prog 11 #[.pointer p, .int .i64 fd] w fun e w' => e = .returned (.tuple #[.int .i64 0, .int .i64 0, .int .i64 1]) ∧ Below w.heap.size w w' := by
  have HN := Lib.hid (hfind_none 0 p fd w (Lib.hid (fun W e => by rw [e]; exact h.self)))
  clear h
  go_enter Try.func11, Try.ntmps11
  go_wp2_with fail
  refine HN.out.mono ?_
  rintro e w1 ⟨rfl, rfl⟩
  go_wp2_with fail
  go_ret3
  exact ⟨rfl, Below.refl _ _⟩

set_option maxHeartbeats 1000000 in
theorem nclose (p : Option Addr) (fd : Int) (w : World) (h : NoneAt p w) : Calls Try.prog 15 #[.pointer p, .int .i64 fd] w fun e w' => e = .returned (.tuple #[.int .i64 0, .bool false, .int .i64 1]) ∧ Below w.heap.size w w' := by
  have HN := Lib.hid (hfind_none 0 p fd w (Lib.hid (fun W e => by rw [e]; exact h.self)))
  clear h
  go_enter Try.func15, Try.ntmps15
  go_wp2_with fail
  refine HN.out.mono ?_
  rintro e w1 ⟨rfl, rfl⟩
  go_wp2_with fail
  go_ret3
  exact ⟨rfl, Below.refl _ _⟩

set_option maxHeartbeats 1000000 in
theorem nseek (p : Option Addr) (fd n : Int) (w : World) (h : NoneAt p w) : Calls Try.prog 17 #[.pointer p, .int .i64 fd, .int .i64 n] w fun e w' => e = .returned (.int .i64 1) ∧ Below w.heap.size w w' := by
  have HN := Lib.hid (hfind_none 0 p fd w (Lib.hid (fun W e => by rw [e]; exact h.self)))
  clear h
  go_enter Try.func17, Try.ntmps17
  go_wp2_with fail
  refine HN.out.mono ?_
  rintro e w1 ⟨rfl, rfl⟩
  go_wp2_with fail
  go_ret
  exact ⟨rfl, Below.refl _ _⟩

set_option maxHeartbeats 1000000 in
theorem nhas (p : Option Addr) (n : Int) (w : World) (h : NoneAt p w) : Calls Try.prog 12 #[.pointer p, .int .i64 n] w fun e w' => e = .returned (.bool false) ∧ Below w.heap.size w w' := by
  have X : Below w.heap.size w (w.alloc (.cells #[.int .i64 n] 3)) := (Below.refl _ _).alloc (Nat.le_refl _) _
  have HN := Lib.hid (h _ X)
  clear h
  go_enter Try.func12, Try.ntmps12
  go_wp2_with fail
  refine HN.out.mono ?_
  rintro e w1 ⟨rfl, rfl⟩
  go_wp2_with fail
  go_ret
  exact ⟨rfl, X⟩

set_option maxHeartbeats 1000000 in
theorem nfull (p : Option Addr)  (w : World) (h : NoneAt p w) : Calls Try.prog 21 #[.pointer p] w fun e w' => e = .returned (.bool false) ∧ Below w.heap.size w w' := by
  have HN := Lib.hid h.self
  clear h
  go_enter Try.func21, Try.ntmps21
  go_wp2_with fail
  refine HN.out.mono ?_
  rintro e w1 ⟨rfl, rfl⟩
  go_wp2_with fail
  go_ret
  exact ⟨rfl, Below.refl _ _⟩

set_option maxHeartbeats 1000000 in
theorem nnodes (p : Option Addr)  (w : World) (h : NoneAt p w) : Calls Try.prog 23 #[.pointer p] w fun e w' => e = .returned (.slice none 0 0) ∧ Below w.heap.size w w' := by
  have HN := Lib.hid h.self
  clear h
  go_enter Try.func23, Try.ntmps23
  go_wp2_with fail
  refine HN.out.mono ?_
  rintro e w1 ⟨rfl, rfl⟩
  go_wp2_with fail
  go_ret
  exact ⟨rfl, Below.refl _ _⟩

set_option maxHeartbeats 1000000 in
theorem nclone (p : Option Addr)  (w : World) (h : NoneAt p w) : Calls Try.prog 25 #[.pointer p] w fun e w' => e = .returned (.pointer none) ∧ Below w.heap.size w w' := by
  have HN := Lib.hid h.self
  clear h
  go_enter Try.func25, Try.ntmps25
  go_wp2_with fail
  refine HN.out.mono ?_
  rintro e w1 ⟨rfl, rfl⟩
  go_wp2_with fail
  go_ret
  exact ⟨rfl, Below.refl _ _⟩

end Go.Proofs.Ythnnmhnddpghfaa
