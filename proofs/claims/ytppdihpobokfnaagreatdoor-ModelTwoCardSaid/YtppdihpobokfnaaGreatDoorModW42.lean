/- Walks: a law's run: what is seen, and what is open, as rows that are not the model's. -/
import Derived.Test.YtppdihpobokfnaaGreatDoorGK
import Derived.Test.YtppdihpobokfnaaGreatDoorModW41
import Derived.Test.YtppdihpobokfnaaGreatDoorGPl2
set_option linter.unusedVariables false
set_option linter.unusedSimpArgs false
set_option maxRecDepth 100000
namespace Go.Proofs.YtppdihpobokfnaaGreatDoor
open Go.RowKit Go.Joins

theorem row_formN {W : World} {base : Nat} {e : TypeId} {sz : Nat} {v : Value} {n : Nat} {xs : List Value} (h : W.ownsRow base e sz v n xs) : (n = 0 ∧ v = nilS) ∨ ∃ g cap, v = .slice (some ⟨g, 0, none⟩) n cap ∧ RowAt W g xs ∧ base ≤ g := by
  obtain ⟨h1, h2⟩ := h
  rcases h2 with ⟨rfl, h2⟩ | ⟨g, cap, cur, rfl, hg, hc, hn, hm, hs, ht⟩
  · exact .inl ⟨h2, rfl⟩
  · refine .inr ⟨g, cap, rfl, ⟨cur, _, 0, 0, hc, fun i hi => ?_, fun i hi => by omega⟩, hg⟩
    rw [← Array.getElem?_toList]
    have h9 : (cur.toList.take (n * sz))[i]? = xs[i]? := by rw [ht]
    rw [List.getElem?_take_of_lt (by omega)] at h9
    exact h9
theorem view_len {N : Nat} {X : Nat → Prop} {m : Md} (h : Inv N X m) : (viewP m).length ≤ 1 + N := by
  have := all_len h
  rw [← viewP_items, List.length_map]
  exact this
theorem opened_len (m : Md) : (openedP m).length ≤ 16 := by
  unfold openedP
  refine Nat.le_trans (List.length_filterMap_le ..) ?_
  simp
/-- a list of structs lies in a row -/
def GIn {α : Type} (rows : List (Nat × List Value)) (a : Option Addr) (f : α → List Value) (l : List α) : Prop := l = [] ∨ ∃ g, a = some ⟨g, 0, none⟩ ∧ (g, l.flatMap f) ∈ rows
theorem GIn.more {α : Type} {rows rows' : List (Nat × List Value)} {a : Option Addr} {f : α → List Value} {l : List α} (h : GIn rows a f l) (hs : RSub rows rows') : GIn rows' a f l := by
  rcases h with h | ⟨g, e, hm⟩
  · exact .inl h
  · exact .inr ⟨g, e, hs _ hm⟩
theorem RSub.refl (a : List (Nat × List Value)) : RSub a a := fun _ h => h
theorem RSub.trans {a b c : List (Nat × List Value)} (h : RSub a b) (h' : RSub b c) : RSub a c := fun p hp => h' p (h p hp)
theorem RSub.cons {a : List (Nat × List Value)} (p : Nat × List Value) : RSub a (p :: a) := fun _ h => List.mem_cons_of_mem _ h
section
variable {w W W' : World} {MB N : Nat} {m : Md} {rows : List (Nat × List Value)}
theorem Lv.valG {α : Type} {f : α → List Value} {l : List α} {a : Option Addr} {sz : Nat} (h : Lv w MB N W m rows) (hf : ∀ x, (f x).length = sz) (hg : GIn rows a f l) : ValG W a sz (l.map f) := by
  rcases hg with rfl | ⟨g, rfl, hm⟩
  · exact .inl rfl
  · have hr := h.row hm
    refine .inr ⟨g, 0, rfl, hr.lt, fun i xs hi j v hj => ?_⟩
    rw [List.getElem?_map] at hi
    obtain ⟨x, hx, rfl⟩ := Option.map_eq_some_iff.1 hi
    have h9 := flat_at hf l i x hx j v hj
    rw [Nat.zero_add, hr.cell _ (List.getElem?_eq_some_iff.1 h9).1, h9]
theorem Lv.put (h : Lv w MB N W m rows) (hb : Below W.heap.size W W') {g : Nat} {xs : List Value} (hr : RowAt W' g xs) (hg : W.heap.size ≤ g) : Lv w MB N W' m ((g, xs) :: rows) := by
  obtain ⟨R, h1, h2, h3, h4⟩ := h.ex
  refine ⟨h.inv, h.below.trans (hb.mono h.below.size), R, h1, h2.below hb (Nat.le_refl _), h3, fun p hp => ?_⟩
  rcases List.mem_cons.1 hp with rfl | hp
  · exact ⟨hr, h2.fresh hg⟩
  · exact ⟨(h4 p hp).1.below hb (h4 p hp).1.lt, (h4 p hp).2⟩
/-- what is seen -/
theorem lv_view (h : Lv w MB N W m rows) (hN : N ≤ 20000) :
    Calls Tryz.prog 19 #[.pointer (some ⟨MB, 0, none⟩)] W fun e W' => ∃ a cap rows', e = .returned (.slice a (viewP m).length cap) ∧ Lv w MB N W' m rows' ∧ RSub rows rows' ∧ GIn rows' a itC (viewP m) := by
  obtain ⟨R, h1, h2, h3, h4⟩ := h.ex
  subst h1
  refine (mview W h2 h.inv hN).mono ?_
  rintro e W' ⟨v, base, rfl, hO, hB, hbase⟩
  rcases row_formN hO with ⟨e1, rfl⟩ | ⟨g, cap, rfl, hr, hg⟩
  · refine ⟨none, 0, rows, by rw [e1], h.under hB, RSub.refl _, .inl (List.length_eq_zero_iff.1 e1)⟩
  · exact ⟨_, cap, (g, (viewP m).flatMap itC) :: rows, rfl, h.put hB hr (Nat.le_trans hbase hg), RSub.cons _, .inr ⟨g, rfl, List.mem_cons_self ..⟩⟩
/-- what is open -/
theorem lv_open2 (h : Lv w MB N W m rows) (hN : N ≤ 20000) :
    Calls Tryz.prog 21 #[.pointer (some ⟨MB, 0, none⟩)] W fun e W' => ∃ a cap rows', e = .returned (.slice a (openedP m).length cap) ∧ Lv w MB N W' m rows' ∧ RSub rows rows' ∧ GIn rows' a opC (openedP m) := by
  obtain ⟨R, h1, h2, h3, h4⟩ := h.ex
  subst h1
  refine (mopened W h2 h.inv hN).mono ?_
  rintro e W' ⟨v, rfl, hO, hB⟩
  rcases row_formN hO with ⟨e1, rfl⟩ | ⟨g, cap, rfl, hr, hg⟩
  · refine ⟨none, 0, rows, by rw [e1], h.under hB, RSub.refl _, .inl (List.length_eq_zero_iff.1 e1)⟩
  · exact ⟨_, cap, (g, (openedP m).flatMap opC) :: rows, rfl, h.put hB hr hg, RSub.cons _, .inr ⟨g, rfl, List.mem_cons_self ..⟩⟩
end

end Go.Proofs.YtppdihpobokfnaaGreatDoor
