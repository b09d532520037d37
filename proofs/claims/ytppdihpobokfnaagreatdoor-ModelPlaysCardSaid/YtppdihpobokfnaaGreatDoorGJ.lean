/- A part of a proof. -/
import Derived.Test.YtppdihpobokfnaaGreatDoorModW34
set_option linter.unusedVariables false
set_option linter.unusedSimpArgs false
set_option maxRecDepth 100000
namespace Go.Proofs.YtppdihpobokfnaaGreatDoor
open Go.RowKit Go.Joins Go.ChangeShapes Go.WideShapes Go.Deep
section
variable {H : Type} {enc : TypeId × Value → H} {P : Program} {w : World} {base : Nat} {spare : Nat → Bool} {held : Bool}
theorem trod_textC {t : TypeId} {fuel : Nat} {v : Value} {x : DataW H × List MemPlace} (ht : P.underlying t = some .string) (h : DataW.trod enc P w base spare held fuel t [v] = some x) : ∃ s : ByteArray, v = .string s ∧ s.size ≤ maxLen := by
 obtain ⟨s, e, _, hs⟩ := DataW.trod_string ht h
 exact ⟨s, by simpa using e, hs⟩
end
instance : Inhabited Cl := ⟨⟨0, ⟨#[]⟩, ⟨#[]⟩, 0, 0, ⟨#[]⟩, false⟩⟩
def ClOk (c : Cl) : Prop := i64B c.k ∧ i64B c.fd ∧ i64B c.n ∧ c.p.size ≤ maxLen ∧ c.o.size ≤ maxLen ∧ c.d.size ≤ maxLen
theorem ClOk.wf {c : Cl} (h : ClOk c) : (Lit.int .i64 c.k).wf = true := WalkArith.wf_i64 ⟨h.1.1, h.1.2⟩
end Go.Proofs.YtppdihpobokfnaaGreatDoor
set_option linter.unusedVariables false
set_option linter.unusedSimpArgs false
set_option maxRecDepth 100000
namespace Go.Proofs.YtppdihpobokfnaaGreatDoor
open Go.RowKit Go.Joins
theorem call_cells {W : World} {a : Option Addr} {l : List Cl} {k : Nat} {x : Cl} (h : ValG W a 7 (l.map callC)) (hx : l[k]? = some x) : ∃ P o, a = some ⟨P, o, none⟩ ∧ P < W.heap.size ∧ W.cell? ⟨P, o + k * 7, none⟩ = some (.int .i64 x.k) ∧ W.cell? ⟨P, o + k * 7 + 1, none⟩ = some (.string x.p) ∧ W.cell? ⟨P, o + k * 7 + 2, none⟩ = some (.string x.o) ∧ W.cell? ⟨P, o + k * 7 + 3, none⟩ = some (.int .i64 x.fd) ∧ W.cell? ⟨P, o + k * 7 + 4, none⟩ = some (.int .i64 x.n) ∧ W.cell? ⟨P, o + k * 7 + 5, none⟩ = some (.string x.d) ∧ W.cell? ⟨P, o + k * 7 + 6, none⟩ = some (.bool x.on) := by
 obtain ⟨P, o, e, hP, h⟩ := h.at (i := k) (xs := callC x) (by rw [List.getElem?_map, hx]; rfl)
 exact ⟨P, o, e, hP, h 0 _ rfl, h 1 _ rfl, h 2 _ rfl, h 3 _ rfl, h 4 _ rfl, h 5 _ rfl, h 6 _ rfl⟩
def RSub (a b : List (Nat × List Value)) : Prop := ∀ p ∈ a, p ∈ b
end Go.Proofs.YtppdihpobokfnaaGreatDoor
set_option linter.unusedVariables false
set_option linter.unusedSimpArgs false
set_option maxRecDepth 100000
namespace Go.Proofs.YtppdihpobokfnaaGreatDoor
open Go.RowKit Go.Joins
end Go.Proofs.YtppdihpobokfnaaGreatDoor
