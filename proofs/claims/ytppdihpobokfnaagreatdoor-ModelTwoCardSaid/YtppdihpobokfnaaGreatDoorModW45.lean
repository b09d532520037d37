/- Walks: clones of a row of bytes, of a map of names. -/
import Derived.Test.YtppdihpobokfnaaGreatDoorGC
import Derived.Test.YtppdihpobokfnaaGreatDoorGHan
import Derived.Shelf.SlMaps.Clone
set_option linter.unusedVariables false
set_option linter.unusedSimpArgs false
set_option maxRecDepth 100000
namespace Go.Proofs.YtppdihpobokfnaaGreatDoor
open Go.RowKit Go.Joins Go.Maps

theorem info_u8c : (Tryz.prog.info? 5).map (fun i => (i.zero, i.size, i.bytes)) = some (some (.int .u8 0), 1, 1) := by kernel_rfl
theorem ownB_of {w : World} {base : Nat} {e : TypeId} {v : Value} {n : Nat} {xs : List Value} (h : w.ownsRow base e 1 v n xs) : OwnB w e v n xs := by
  refine ⟨by have := h.1; rwa [Nat.mul_one] at this, ?_⟩
  rcases h.2 with ⟨h1, h2⟩ | ⟨g, cap, cur, h1, hg, hh, hn, hm, hs, ht⟩
  · exact .inl ⟨h1, h2⟩
  · exact .inr ⟨g, cap, cur, h1, hh, hn, hm, by omega, by rw [Nat.mul_one] at ht; exact ht⟩

theorem mpclone_nil (w : World) : Calls Tryz.prog 83 #[.map none] w fun e w' => e = .returned (.map none) ∧ w' = w := by
  have hq := fun w => run_eql_map_nil_sl (P := Tryz.prog) w 77 _ _ none Tryz.underlying77
  go_enter Tryz.func83, Tryz.ntmps83
  go_wp2
  go_ret
  exact ⟨rfl, rfl⟩

set_option maxHeartbeats 2000000 in
theorem mpclone (b : Nat) (es : Array MapEntry) (clock : Nat) (w : World) (hb : w.heap[b]? = some (.map es clock)) :
    Calls Tryz.prog 83 #[.map (some b)] w fun e w' => e = .returned (.map (some w.heap.size)) ∧ w' = w.alloc (.map es clock) := by
  have hq := fun w => run_eql_map_nil_sl (P := Tryz.prog) w 77 _ _ (some b) Tryz.underlying77
  go_enter Tryz.func83, Tryz.ntmps83
  go_wp2
  rw [run_callFunc_extern Tryz.func118 (by kernel_rfl) (by kernel_rfl) (by kernel_rfl) (e := Extern.MapsClone.clone) (by kernel_rfl), run_maps_clone_sl w 77 hb]
  simp only [Result.andThen]
  rw [Oper.upon_value]
  go_wp2
  rw [run_typeAssert_map_sl _ 77 20 _ _ _ Tryz.underlying77]
  simp only [Result.andThen]
  rw [Oper.upon_value]
  go_wp2
  go_ret
  exact ⟨rfl, rfl⟩

theorem mpclone_own {H : Type} {K : TypeId} {Q : Value → Option (DataW H × List MemPlace)} (b n : Nat) (D : DataW H) (w : World) (h : w.ownsMap Tryz.prog K Q b n D) :
    Calls Tryz.prog 83 #[.map (some b)] w fun e w' => e = .returned (.map (some w.heap.size)) ∧ w'.ownsMap Tryz.prog K Q w.heap.size n D ∧ Below w.heap.size w w' := by
  obtain ⟨es, clock, hb, F, hn, rfl⟩ := h
  refine (mpclone b es clock w hb).mono ?_
  rintro e w' ⟨rfl, rfl⟩
  exact ⟨rfl, ⟨es, clock, heap_alloc_new w _, F, hn, rfl⟩, (Below.refl _ _).alloc (Nat.le_refl _) _⟩

set_option maxHeartbeats 2000000 in
theorem sclone (v : Value) (n : Nat) (xs : List Value) (w : World) (h : OwnB w 5 v n xs) (hn : n ≤ 1000000) (h1 : ∀ u ∈ xs, u.oneCell' = true) :
    Calls Tryz.prog 82 #[v] w fun e w' => ∃ v', e = .returned v' ∧ OwnB w' 5 v' n xs ∧ (∀ b, v'.ownBlock = some b → w.heap.size ≤ b) ∧ Below w.heap.size w w' := by
  obtain ⟨i0, hi, hz0, hz1, hz2⟩ := info_parts info_u8c
  have HI := Lib.hid (And.intro hi (And.intro hz0 (And.intro hz1 hz2)))
  have HO := Lib.hid h
  rcases h.2 with ⟨rfl, rfl⟩ | ⟨g, cap, cur, rfl, hh, hc, hm, hcs, ht⟩
  · have hne : ∀ w, (binOp .eql 78 (.slice none 0 0) (.slice none 0 0)).run Tryz.prog w = .ok (.bool true) w := fun w => by kernel_rfl
    clear h hi hz0 hz1 hz2
    go_enter Tryz.func82, Tryz.ntmps82
    go_wp2
    go_ret
    exact ⟨.slice none 0 0, rfl, HO.out, (fun b hb => by simp [Value.ownBlock] at hb), Below.refl _ _⟩
  · have hglt : g < w.heap.size := (Array.getElem?_eq_some_iff.1 hh).1
    have HN := Lib.hid (show ∀ W, Below w.heap.size w W → ∀ j u, xs[j]? = some u → W.cell? ((⟨g, 0, none⟩ : Addr).add j) = some u from fun W hb j u hu => by
      have hj := (List.getElem?_eq_some_iff.1 hu).1
      have hx : cur[j]? = some u := by
        rw [← Array.getElem?_toList, ← hu, ← ht, List.getElem?_take_of_lt (by have := h.1; omega)]
      have hrow : RowAt w g cur.toList := ⟨cur, _, 0, 0, hh, fun i hi => by rw [Array.getElem?_toList], fun i hi => by omega⟩
      have hr2 := hrow.below hb hglt
      have := hr2.cell j (by have := (Array.getElem?_eq_some_iff.1 hx).1; simpa using this)
      have e : (⟨g, 0, none⟩ : Addr).add j = ⟨g, j, none⟩ := by cases j <;> simp [Addr.add]
      rw [e, this, Array.getElem?_toList, hx])
    have HL := Lib.hid h.1
    have HM := Lib.hid hn
    have hne : ∀ w, (binOp .eql 78 (.slice (some ⟨g, 0, none⟩) n cap) (.slice none 0 0)).run Tryz.prog w = .ok (.bool false) w := fun w => by kernel_rfl
    have HB1 := Lib.hid (show Below w.heap.size w (w.alloc (.cells #[] 5)) from (Below.refl _ _).alloc (Nat.le_refl _) _)
    clear h hi hz0 hz1 hz2 hh hc hm hcs ht hn
    go_enter Tryz.func82, Tryz.ntmps82
    go_wp2_with (at_builtin; refine wpList_append_own _ rfl _ _ 78 rfl w.heap.size 5 i0 (.int .u8 0) 1 1 Tryz.underlying78 HI.out.1 HI.out.2.1 HI.out.2.2.1 HI.out.2.2.2 rfl (by decide) (.slice (some ⟨w.heap.size, 0, none⟩) 0 0) 0 [] rfl (World.ownsRow_made (base := w.heap.size) (e := 5) (size := 1) w #[] 0 (Nat.le_refl _) (Nat.zero_le _) rfl) ⟨g, 0, none⟩ n cap xs rfl (by rw [HL.out, Nat.mul_one]) (HN.out _ HB1.out) h1 (by have := HM.out; unfold maxLen; omega) (by have := HM.out; omega) (by simp) ?_; intro v' w2 own2 grow2 _; have HO2 := Lib.hid (And.intro own2 grow2); clear own2 grow2)
    go_ret
    refine ⟨v', rfl, ?_, fun b hb => (HO2.out.1.lt b hb).1, HB1.out.grown HO2.out.2 (by simp) (fun j hj => by cases hj; exact Nat.le_refl _)⟩
    have := ownB_of HO2.out.1
    rw [Nat.zero_add, List.nil_append] at this
    exact this

end Go.Proofs.YtppdihpobokfnaaGreatDoor
