/- A part of a proof. -/
import Derived.Test.YtppdihpobokfnaaGreatDoorGK
import Derived.Test.YtppdihpobokfnaaGreatDoorGJ
import Derived.Test.YtppdihpobokfnaaGreatDoorGPl2
set_option linter.unusedVariables false
set_option linter.unusedSimpArgs false
set_option maxRecDepth 100000
namespace Go.Proofs.YtppdihpobokfnaaGreatDoor
open Go.RowKit Go.Joins
theorem row_formN {W : World} {base : Nat} {e : TypeId} {sz : Nat} {v : Value} {n : Nat} {xs : List Value} (h : W.ownsRow base e sz v n xs) : (n = 0 ∧ v = nilS) ∨ ∃ g cap, v = .slice (some ⟨g, 0, none⟩) n cap ∧ RowAt W g xs ∧ base ≤ g := by
 obtain ⟨h1, h2⟩ := h
 rcases h2 with ⟨rfl, h2⟩ | ⟨g, cap, cur, rfl, hg, hc, hn, hm, hs, ht⟩
 · exact .inl ⟨h2, rfl⟩
 · refine .inr ⟨g, cap, rfl, ⟨cur, _, 0, 0, hc, fun i hi => ?_, fun i hi => by omega⟩, hg⟩
   rw [← Array.getElem?_toList]
   have h9 : (cur.toList.take (n * sz))[i]? = xs[i]? := by rw [ht]
   rw [List.getElem?_take_of_lt (by omega)] at h9
   exact h9
theorem view_len {N : Nat} {X : Nat → Prop} {m : Md} (h : Inv N X m) : (viewP m).length ≤ 1 + N := by
 have := all_len h
 rw [← viewP_items, List.length_map]
 exact this
theorem opened_len (m : Md) : (openedP m).length ≤ 16 := by
 unfold openedP
 refine Nat.le_trans (List.length_filterMap_le ..) ?_
 simp
def GIn {α : Type} (rows : List (Nat × List Value)) (a : Option Addr) (f : α → List Value) (l : List α) : Prop := l = [] ∨ ∃ g, a = some ⟨g, 0, none⟩ ∧ (g, l.flatMap f) ∈ rows
theorem GIn.more {α : Type} {rows rows' : List (Nat × List Value)} {a : Option Addr} {f : α → List Value} {l : List α} (h : GIn rows a f l) (hs : RSub rows rows') : GIn rows' a f l := by
 rcases h with h | ⟨g, e, hm⟩
 · exact .inl h
 · exact .inr ⟨g, e, hs _ hm⟩
theorem RSub.refl (a : List (Nat × List Value)) : RSub a a := fun _ h => h
theorem RSub.cons {a : List (Nat × List Value)} (p : Nat × List Value) : RSub a (p :: a) := fun _ h => List.mem_cons_of_mem _ h
section
variable {w W W' : World} {MB N : Nat} {m : Md} {rows : List (Nat × List Value)}
end
end Go.Proofs.YtppdihpobokfnaaGreatDoor
