/- Walks: the document's table of descriptors: Seek; what its methods leave as it was. -/
import Derived.Test.YthnnmhnddpghfaaHanRef4
set_option linter.unusedVariables false
set_option linter.unusedSimpArgs false
set_option maxRecDepth 100000
namespace Go.Proofs.Ythnnmhnddpghfaa
open Go.RowKit Go.Joins

/-- of the blocks below base only R may have turned -/
structure KeptR (R base : Nat) (w w' : World) : Prop where
  os : w'.os = w.os
  tape : w'.tape = w.tape
  output : w'.output = w.output
  size : w.heap.size ≤ w'.heap.size
  block : ∀ k, k < base → k ≠ R → w'.heap[k]? = w.heap[k]?

section
variable {R base : Nat} {w w' w0 : World}
theorem KeptR.refl (R base : Nat) (w : World) : KeptR R base w w := ⟨rfl, rfl, rfl, Nat.le_refl _, fun _ _ _ => rfl⟩
theorem KeptR.trans {a b c : World} (h : KeptR R base a b) (k : KeptR R base b c) : KeptR R base a c :=
  ⟨k.os.trans h.os, k.tape.trans h.tape, k.output.trans h.output, Nat.le_trans h.size k.size, fun i hi hne => (k.block i hi hne).trans (h.block i hi hne)⟩
theorem KeptR.of_below {B : Nat} (h : Below B w w') (hB : base ≤ B) : KeptR R base w w' := ⟨h.os, h.tape, h.output, h.size, fun k hk _ => h.block k (by omega)⟩
theorem KeptR.of_grown {row : Option Nat} (h : w.grownBy w' row) (hb : base ≤ w.heap.size) (hr : ∀ k, row = some k → k = R ∨ base ≤ k) : KeptR R base w w' :=
  ⟨h.os, h.tape, h.output, h.size, fun k hk hne => h.block k (by omega) (fun e => by rcases hr k e.symm with c | c <;> omega)⟩
theorem KeptR.set (w : World) (R base o : Nat) (v : Value) : KeptR R base w (w.setCell ⟨R, o, none⟩ v) :=
  ⟨rfl, rfl, rfl, by simp [World.setCell], fun k hk hne => Below.heap_setCell _ _ _ _ hne⟩
theorem KeptR.below {B : Nat} (h : KeptR R base w w') (hR : B ≤ R) (hb : B ≤ base) : Below B w w' := ⟨h.os, h.tape, h.output, h.size, fun k hk => h.block k (by omega) (by omega)⟩
theorem KeptR.tab {K : Nat} {m : Bool} {l : List Sl} (h : KeptR R base w w') (ht : TabAt w K m l) (hK : K < base) (hne : K ≠ R) : TabAt w' K m l := ⟨ht.1, ht.2.same (h.block K hK hne)⟩
end

/-- of what was there only R and the block of its elements may have turned -/
def FarR (R : Nat) (w w' : World) : Prop := ∀ k, k < w.heap.size → k ≠ R → (∀ v, w.cell? ⟨R, 0, none⟩ = some v → v.ownBlock ≠ some k) → w'.heap[k]? = w.heap[k]?
theorem FarR.refl (R : Nat) (w : World) : FarR R w w := fun _ _ _ _ => rfl
theorem FarR.row {R : Nat} {w w' : World} {X : Nat} {xs : List Value} (h : FarR R w w') (hx : RowAt w X xs) (hne : X ≠ R) (ho : ∀ v, w.cell? ⟨R, 0, none⟩ = some v → v.ownBlock ≠ some X) : RowAt w' X xs := hx.same (h X hx.lt hne ho)

section
variable {R base : Nat} {w w' : World} {l : List Rf}
theorem RO.below (h : RO w R base l) (hb : Below w.heap.size w w') : RO w' R base l := by
  obtain ⟨hR, v, h1, h2⟩ := h
  exact ⟨hR, v, h1.below hb h1.lt, h2.kept (row := none) ⟨hb.os, hb.tape, hb.output, hb.size, fun k hk _ => hb.block k hk⟩ (by cases v.ownBlock <;> simp)⟩
theorem RO.grown {K : Nat} (h : RO w R base l) (hg : w.grownBy w' (some K)) (hK : K < base) (hne : K ≠ R) : RO w' R base l := by
  obtain ⟨hR, v, h1, h2⟩ := h
  refine ⟨hR, v, h1.grown hg (fun q => hne (by injection q)), h2.kept hg ?_⟩
  by_cases c : v.ownBlock = none
  · exact .inl c
  · refine .inr fun e => ?_
    have := (h2.lt K e).1
    omega

theorem rf_set (l : List Rf) (k : Nat) (x : Rf) (z : Int) (hx : l[k]? = some x) : (l.flatMap Rf.cells).set (k * 3 + 2) (.int .i64 z) = (l.set k ⟨x.f, x.n, z⟩).flatMap Rf.cells := by
  induction l generalizing k with
  | nil => simp at hx
  | cons y r ih =>
    cases k with
    | zero =>
      simp at hx; subst hx
      rw [List.set_cons_zero, List.flatMap_cons, List.flatMap_cons]
      rfl
    | succ k =>
      have hh := ih k (by simpa using hx)
      rw [List.set_cons_succ, List.flatMap_cons, List.flatMap_cons, ← hh]
      have hl : (Rf.cells y).length = 3 := rfl
      rw [List.set_append_right _ _ (by rw [hl]; omega), hl]
      have e2 : (k + 1) * 3 + 2 - 3 = k * 3 + 2 := by omega
      rw [e2]

theorem RO.set (h : RO w R base l) {k : Nat} {x : Rf} (z : Int) (hx : l[k]? = some x) : ∃ g cap, w.cell? ⟨R, 0, none⟩ = some (.slice (some ⟨g, 0, none⟩) l.length cap) ∧ g < w.heap.size ∧ (∃ v, w.cell? ⟨g, k * 3 + 2, none⟩ = some v) ∧ w.frozen? ⟨g, k * 3 + 2, none⟩ = false ∧ RO (w.setCell ⟨g, k * 3 + 2, none⟩ (.int .i64 z)) R base (l.set k ⟨x.f, x.n, z⟩) ∧ KeptR R base w (w.setCell ⟨g, k * 3 + 2, none⟩ (.int .i64 z)) ∧ FarR R w (w.setCell ⟨g, k * 3 + 2, none⟩ (.int .i64 z)) := by
  obtain ⟨hR, v, h1, h2⟩ := h
  have hk := (List.getElem?_eq_some_iff.1 hx).1
  obtain ⟨g, cap, rfl, hg, hcap, hr⟩ := own_full4 h2 (by omega)
  have hl := rfcells_len l
  obtain ⟨a0, a1, a2⟩ := rfcells_get l k x hx
  refine ⟨g, cap, h1.cell 0 (by simp), hr.lt, hr.there _ (by omega), hr.frozen _ (by omega), ⟨hR, .slice (some ⟨g, 0, none⟩) l.length cap, h1.other _ _ (by show R ≠ g; omega), ?_⟩, ?_, ?_⟩
  · rw [List.length_set, ← rf_set l k x z hx]
    exact (h2.stored _ _).1
  · exact ⟨rfl, rfl, rfl, by simp [World.setCell], fun j hj _ => Below.heap_setCell _ _ _ _ (by show j ≠ g; omega)⟩
  · intro j hj hne ho
    have := ho _ (h1.cell 0 (by simp))
    refine Below.heap_setCell _ _ _ _ fun e => this ?_
    rw [e]; rfl
end

set_option maxHeartbeats 2000000 in
theorem rseek_none (R : Nat) (l : List Rf) (fd at_ : Int) (w : World) (h : RT w R l) (hn : l.length ≤ 1000) (hi : rAt l fd = -1) :
    Calls Try.prog 18 #[.pointer (some ⟨R, 0, none⟩), .int .i64 fd, .int .i64 at_] w fun e w' => e = .returned (.int .i64 220) ∧ w = w' := by
  have hA := rat R l fd w h hn
  rw [hi] at hA
  have HA := Lib.hid hA
  clear h hi hA
  go_enter Try.func18, Try.ntmps18
  go_wp2_with fail
  refine HA.out.mono ?_
  rintro e w1 ⟨rfl, rfl⟩
  go_wp2_with fail
  go_ret
  exact ⟨rfl, rfl⟩

set_option maxHeartbeats 2000000 in
theorem rseek_bad (R : Nat) (l : List Rf) (fd at_ : Int) (k : Nat) (w : World) (h : RT w R l) (hn : l.length ≤ 1000) (hi : rAt l fd = k) (hb : at_ < 0 ∨ 262144 < at_) :
    Calls Try.prog 18 #[.pointer (some ⟨R, 0, none⟩), .int .i64 fd, .int .i64 at_] w fun e w' => e = .returned (.int .i64 216) ∧ w = w' := by
  have hA := rat R l fd w h hn
  rw [hi] at hA
  have HA := Lib.hid hA
  have h0 : ¬ (k : Int) < 0 := by omega
  clear h hi hA
  by_cases c : at_ < 0
  · go_enter Try.func18, Try.ntmps18
    go_wp2_with fail
    refine HA.out.mono ?_
    rintro e w1 ⟨rfl, rfl⟩
    go_wp2_with fail
    go_ret
    exact ⟨rfl, rfl⟩
  · have c2 : 262144 < at_ := by omega
    clear hb
    go_enter Try.func18, Try.ntmps18
    go_wp2_with fail
    refine HA.out.mono ?_
    rintro e w1 ⟨rfl, rfl⟩
    go_wp2_with fail
    go_ret
    exact ⟨rfl, rfl⟩

set_option maxHeartbeats 2000000 in
theorem rseek_ok (R base : Nat) (l : List Rf) (fd at_ : Int) (k : Nat) (x : Rf) (w : World) (h : RO w R base l) (hn : l.length ≤ 1000) (hi : rAt l fd = k) (hx : l[k]? = some x) (hb : 0 ≤ at_ ∧ at_ ≤ 262144) :
    Calls Try.prog 18 #[.pointer (some ⟨R, 0, none⟩), .int .i64 fd, .int .i64 at_] w fun e w' => e = .returned (.int .i64 0) ∧ RO w' R base (l.set k ⟨x.f, x.n, at_⟩) ∧ KeptR R base w w' ∧ FarR R w w' ∧ w'.heap[R]? = w.heap[R]? := by
  have hA := rat R l fd w h.rt hn
  rw [hi] at hA
  have HA := Lib.hid hA
  obtain ⟨g, cap, hc, hg, ⟨v, hv⟩, hf, hRO, hK, hFar⟩ := h.set at_ hx
  have hgR : R ≠ g := by
    obtain ⟨hR, v0, h1, h2⟩ := h
    have := (h1.cell 0 (by simp)).symm.trans hc
    simp at this
    subst this
    have := (h2.lt g rfl).1
    omega
  have HSR := Lib.hid (Below.heap_setCell w ⟨g, k * 3 + 2, none⟩ (.int .i64 at_) R hgR)
  have hk := (List.getElem?_eq_some_iff.1 hx).1
  have HRO := Lib.hid hRO
  have HK := Lib.hid hK
  have HFar := Lib.hid hFar
  have h0 : ¬ (k : Int) < 0 := by omega
  have h1 : (0 : Int) ≤ (k : Int) := by omega
  have h2 : (k : Int) < (l.length : Int) := by omega
  have h3 : ¬ at_ < 0 := by omega
  have h4 : ¬ 262144 < at_ := by omega
  clear h hi hA hx hRO hK hb hFar
  go_enter Try.func18, Try.ntmps18
  go_wp2_with fail
  refine HA.out.mono ?_
  rintro e w1 ⟨rfl, rfl⟩
  go_wp2_with fail
  go_ret
  exact ⟨rfl, HRO.out, HK.out, HFar.out, HSR.out⟩

end Go.Proofs.Ythnnmhnddpghfaa
