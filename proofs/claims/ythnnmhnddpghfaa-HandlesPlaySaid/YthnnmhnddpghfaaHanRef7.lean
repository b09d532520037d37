/- Walks: the document's table of descriptors: Close. -/
import Derived.Test.YthnnmhnddpghfaaHanRef8
import Derived.Deep.RegionLaw
import Derived.IntWalk
set_option linter.unusedVariables false
set_option linter.unusedSimpArgs false
set_option maxRecDepth 100000
namespace Go.Proofs.Ythnnmhnddpghfaa
open Go.RowKit Go.Joins

set_option maxHeartbeats 2000000 in
theorem rclose_none (R : Nat) (l : List Rf) (fd : Int) (w : World) (h : RT w R l) (hn : l.length ≤ 1000) (hi : rAt l fd = -1) :
    Calls Try.prog 16 #[.pointer (some ⟨R, 0, none⟩), .int .i64 fd] w fun e w' => e = .returned (.tuple #[.int .i64 0, .bool false, .int .i64 220]) ∧ w = w' := by
  have hA := rat R l fd w h hn
  rw [hi] at hA
  have HA := Lib.hid hA
  clear h hi hA
  go_enter Try.func16, Try.ntmps16
  go_wp2_with fail
  refine HA.out.mono ?_
  rintro e w1 ⟨rfl, rfl⟩
  go_wp2_with fail
  go_ret3
  exact ⟨rfl, rfl⟩

theorem rf_take (l : List Rf) (k : Nat) : (l.flatMap Rf.cells).take (k * 3) = (l.take k).flatMap Rf.cells := by
  induction l generalizing k with
  | nil => simp
  | cons d r ih =>
    cases k with
    | zero => simp
    | succ k =>
      rw [List.flatMap_cons, List.take_succ_cons, List.flatMap_cons, ← ih k, List.take_append, show (Rf.cells d).length = 3 from rfl, List.take_of_length_le (by rw [show (Rf.cells d).length = 3 from rfl]; omega)]
      congr 2; omega
theorem rf_drop (l : List Rf) (k : Nat) : (l.flatMap Rf.cells).drop (k * 3) = (l.drop k).flatMap Rf.cells := by
  induction l generalizing k with
  | nil => simp
  | cons d r ih =>
    cases k with
    | zero => simp
    | succ k =>
      rw [List.flatMap_cons, List.drop_succ_cons, ← ih k, List.drop_append, show (Rf.cells d).length = 3 from rfl, List.drop_of_length_le (by rw [show (Rf.cells d).length = 3 from rfl]; omega), List.nil_append]
      congr 1; omega
theorem rf_one (l : List Rf) : ∀ u ∈ l.flatMap Rf.cells, u.oneCell' = true := by
  intro u hu
  rw [List.mem_flatMap] at hu
  obtain ⟨d, _, hu⟩ := hu
  simp only [Rf.cells, List.mem_cons, List.not_mem_nil, or_false] at hu
  rcases hu with rfl | rfl | rfl <;> rfl
theorem row_piece {w : World} {g : Nat} {xs : List Value} (h : RowAt w g xs) (o m : Nat) : ∀ j u, ((xs.drop o).take m)[j]? = some u → w.cell? ⟨g, o + j, none⟩ = some u := by
  intro j u hu
  have hj := (List.getElem?_eq_some_iff.1 hu).1
  simp at hj
  rw [h.cell _ (by omega)]
  rw [List.getElem?_take_of_lt (by omega), List.getElem?_drop] at hu
  exact hu

/-- what stands while the list is laid anew -/
def CloS (w W : World) (R base g : Nat) (l : List Rf) (cap : Nat) : Prop := RowAt W R [.slice (some ⟨g, 0, none⟩) l.length cap] ∧ RowAt W g (l.flatMap Rf.cells) ∧ KeptR R base w W
theorem CloS.grown {w W W' : World} {R base g : Nat} {l : List Rf} {cap : Nat} {row : Option Nat} (h : CloS w W R base g l cap) (hg : W.grownBy W' row) (hr : ∀ k, row = some k → w.heap.size ≤ k) (hR : R < w.heap.size) (hgg : g < w.heap.size) (hb : base ≤ w.heap.size) : CloS w W' R base g l cap := by
  have h1 : row ≠ some R := fun e => by have := hr R e; omega
  have h2 : row ≠ some g := fun e => by have := hr g e; omega
  refine ⟨h.1.grown hg h1, h.2.1.grown hg h2, h.2.2.trans (KeptR.of_grown hg (by have := h.2.2.size; omega) (fun k hk => .inr (by have := hr k hk; omega)))⟩

set_option maxHeartbeats 8000000 in
theorem rclose_ok (R base : Nat) (l : List Rf) (fd : Int) (k : Nat) (x : Rf) (w : World) (h : RO w R base l) (hn : l.length ≤ 1000) (hb : base ≤ w.heap.size) (hi : rAt l fd = k) (hx : l[k]? = some x) :
    Calls Try.prog 16 #[.pointer (some ⟨R, 0, none⟩), .int .i64 fd] w fun e w' => e = .returned (.tuple #[.int .i64 x.n, .bool (!rHas (l.take k ++ l.drop (k + 1)) x.n), .int .i64 0]) ∧ RO w' R base (l.take k ++ l.drop (k + 1)) ∧ KeptR R base w w' ∧ FarR R w w' := by
  have hA := rat R l fd w h.rt hn
  rw [hi] at hA
  have HA := Lib.hid hA
  obtain ⟨i0, hi0, hz0, hz1, hz2⟩ := info_parts info_fd
  have HI := Lib.hid (And.intro hi0 (And.intro hz0 (And.intro hz1 hz2)))
  obtain ⟨hR, v, h1, h2⟩ := h
  have hk := (List.getElem?_eq_some_iff.1 hx).1
  obtain ⟨g, cap, rfl, hg, hcap, hrow⟩ := own_full4 h2 (by omega)
  obtain ⟨a0, a1, a2⟩ := rfcells_get l k x hx
  have hl3 := rfcells_len l
  by_cases hcz : cap = k + 1
  · subst hcz
    have c1 : w.cell? ⟨g, k * 3 + 1, none⟩ = some (.int .i64 x.n) := by rw [hrow.cell _ (by omega)]; exact a1
    have d0 := h1.cell 0 (by simp)
    have hgl := hrow.lt
    have hRl := h1.lt
    obtain ⟨T1, hT1⟩ : ∃ T1, T1 = (l.take k).flatMap Rf.cells := ⟨_, rfl⟩
    obtain ⟨T3, hT3⟩ : ∃ T3, T3 = (l.drop (k + 1)).flatMap Rf.cells := ⟨_, rfl⟩
    have HT1 : Hid (T1.length = k * 3 ∧ (∀ W, CloS w W R base g l (k + 1) → ∀ j u, T1[j]? = some u → W.cell? ((⟨g, 0, none⟩ : Addr).add j) = some u) ∧ ∀ u ∈ T1, u.oneCell' = true) := by
      refine ⟨by rw [hT1, rfcells_len]; simp; omega, fun W hW j u hu => ?_, by rw [hT1]; exact rf_one _⟩
      rw [addr_add]
      refine row_piece hW.2.1 0 (k * 3) j u ?_
      rw [List.drop_zero, rf_take, ← hT1]; exact hu
    have HT3 : Hid (T3.length = (l.length - (k + 1)) * 3 ∧ (∀ W, CloS w W R base g l (k + 1) → ∀ j u, T3[j]? = some u → W.cell? ((⟨g, 0, none⟩ : Addr).add j) = some u) ∧ ∀ u ∈ T3, u.oneCell' = true) := by
      refine ⟨by rw [hT3, rfcells_len]; simp, fun W hW j u hu => ?_, by rw [hT3]; exact rf_one _⟩
      rw [hT3, List.drop_of_length_le (by omega)] at hu
      simp at hu
    have HE : Hid (T1 ++ T3 = (l.take k ++ l.drop (k + 1)).flatMap Rf.cells ∧ (l.take k ++ l.drop (k + 1)).length = k) := by
      refine ⟨by rw [hT1, hT3]; simp, by simp; omega⟩
    clear hT1 hT3
    generalize l.take k ++ l.drop (k + 1) = l2 at *
    have HS0 : Hid (CloS w w R base g l (k + 1)) := ⟨h1, hrow, KeptR.refl _ _ _⟩
    have hlt : Hid (k + (l.length - (k + 1)) ≤ 1000 ∧ k < l.length) := ⟨by omega, hk⟩
    have i1 : (0 : Int) ≤ (k : Int) := by omega
    have i2 : (k : Int) < (l.length : Int) := by omega
    have i3 : (k : Int) ≤ ((k + 1) : Int) := by omega
    have i4 : (k : Int) + 1 ≤ (l.length : Int) := by omega
    have i5 : (0 : Int) ≤ (k : Int) + 1 := by omega
    have i6 : (l.length : Int) ≤ ((k + 1) : Int) := by omega
    have i7 : (l.length : Int) ≤ 1000 := by omega
    have hneg : ¬ ((k : Int) < 0) := by omega
    have iw : IntKind.i64.wrap ((k : Int) + 1) = (k : Int) + 1 := IntWalk.i64_in _ (by omega)
    have HS1 : Hid (CloS w w.drew R base g l (k + 1)) := ⟨h1.drew, hrow.drew, KeptR.of_below ((Below.refl w.heap.size w).drew) hb⟩
    have d1 : w.drew.cell? ⟨R, 0, none⟩ = some (.slice (some ⟨g, 0, none⟩) l.length (k + 1)) := d0
    clear hi hi0 hz0 hz1 hz2 hx a0 a1 a2 h2 hl3
    go_enter Try.func16, Try.ntmps16
    go_wp2_with fail
    refine HA.out.mono ?_
    rintro e w1 ⟨rfl, rfl⟩
    go_wp2_with fail
    clear h1 hrow
    go_region_law (first | (refine step_append_own rfl (.const (.slice none 0 0)) (.tmp 28) 35 rfl w.heap.size 64 i0 (.agg #[.int .i64 0, .int .i64 0, .int .i64 0]) 3 24 Try.underlying35 HI.out.1 HI.out.2.1 HI.out.2.2.1 HI.out.2.2.2 rfl (by decide) (.slice none 0 0) 0 [] (by rfl) (World.ownsRow_nil w.drew w.heap.size 64 3) ⟨g, 0, none⟩ k (k + 1) T1 (by simp [Act.eval, Act.put]) HT1.out.1 (HT1.out.2.1 w.drew HS1.out) HT1.out.2.2 (by have := hlt.out.1; unfold maxLen; omega) (by have := hlt.out.1; omega) (Nat.le_refl w.heap.size) ?_; intro v5 w5 own5 grow5; have HG5 := Lib.hid grow5; have HO5 := Lib.hid own5; have HS5 := Lib.hid (HS1.out.grown grow5 (fun j hj => by simp [Value.ownBlock] at hj) hRl hgl hb); have C5 : w5.cell? ⟨R, 0, none⟩ = some (.slice (some ⟨g, 0, none⟩) l.length (k + 1)) := HS5.out.1.cell 0 (by simp); clear own5 grow5) | (refine step_append_own rfl (.tmp 29) (.tmp 36) 35 rfl w.heap.size 64 i0 (.agg #[.int .i64 0, .int .i64 0, .int .i64 0]) 3 24 Try.underlying35 HI.out.1 HI.out.2.1 HI.out.2.2.1 HI.out.2.2.2 rfl (by decide) v5 (0 + k) ([] ++ T1) (by simp [Act.eval, Act.put]) HO5.out ⟨g, 0, none⟩ 0 0 T3 (by simp [Act.eval, Act.put]) (by have := HT3.out.1; have := hlt.out.2; omega) (HT3.out.2.1 w5 HS5.out) HT3.out.2.2 (by have := hlt.out.1; unfold maxLen; omega) (by have := hlt.out.1; omega) (by have := HG5.out.size; exact this) ?_; intro v6 w6 own6 grow6; obtain ⟨a6, cap6, rfl⟩ := own_form own6; have HO6 := Lib.hid own6; have HG6 := Lib.hid grow6; have hlo5 : ∀ j, v5.ownBlock = some j → w.heap.size ≤ j := (fun j hj => (HO5.out.lt j hj).1); have HS6 := Lib.hid (HS5.out.grown grow6 hlo5 hRl hgl hb); have C6 : w6.cell? ⟨R, 0, none⟩ = some (.slice (some ⟨g, 0, none⟩) l.length (k + 1)) := HS6.out.1.cell 0 (by simp); have F6 := HS6.out.1.frozen 0 (by simp); have L6 := HS6.out.1.lt; clear own6 grow6 hlo5) | fail)
    all_goals
     have HR6 : Hid (RO (w6.setCell ⟨R, 0, none⟩ (.slice a6 k cap6)) R base l2 ∧ KeptR R base w (w6.setCell ⟨R, 0, none⟩ (.slice a6 k cap6)) ∧ l2.length ≤ 1000 ∧ FarR R w (w6.setCell ⟨R, 0, none⟩ (.slice a6 k cap6))) := by
       refine ⟨⟨hR, .slice a6 k cap6, HS6.out.1.set 0 _, ?_⟩, HS6.out.2.2.trans (KeptR.set _ _ _ _ _), by rw [HE.out.2]; have := hlt.out.1; omega, fun j hj hne _ => ?_⟩
       rotate_left
       · rw [Below.heap_setCell _ _ _ _ (by exact hne), HG6.out.block j (by have := HG5.out.size; have e : w.drew.heap.size = w.heap.size := rfl; omega) (fun e => by have := (HO5.out.lt j e.symm).1; omega), HG5.out.block j hj (fun e => by simp [Value.ownBlock] at e)]
         rfl
       have h7 : w6.ownsRow w.heap.size 64 3 (.slice a6 k cap6) k (T1 ++ T3) := by
         have := HO6.out
         rw [List.nil_append, Nat.zero_add] at this
         exact this
       have h8 := own_less (own_other h7 ⟨R, 0, none⟩ (.slice a6 k cap6) (by exact hRl)) hb
       rw [HE.out.1] at h8
       rw [HE.out.2]
       exact h8
     clear C6 F6 HS6 HO6 C5 HS5 HO5 HG5 HG6 d1 d0 L6
     go_wp2_with fail
     refine (rhas R l2 x.n _ HR6.out.1.rt HR6.out.2.2.1).mono ?_
     rintro e w7 ⟨rfl, rfl⟩
     go_wp2_with fail
     go_ret3
     exact ⟨rfl, HR6.out.1, HR6.out.2.1, HR6.out.2.2.2⟩
  · have hcz2 := hcz
    have c1 : w.cell? ⟨g, k * 3 + 1, none⟩ = some (.int .i64 x.n) := by rw [hrow.cell _ (by omega)]; exact a1
    have d0 := h1.cell 0 (by simp)
    have hgl := hrow.lt
    have hRl := h1.lt
    obtain ⟨T1, hT1⟩ : ∃ T1, T1 = (l.take k).flatMap Rf.cells := ⟨_, rfl⟩
    obtain ⟨T3, hT3⟩ : ∃ T3, T3 = (l.drop (k + 1)).flatMap Rf.cells := ⟨_, rfl⟩
    have HT1 : Hid (T1.length = k * 3 ∧ (∀ W, CloS w W R base g l cap → ∀ j u, T1[j]? = some u → W.cell? ((⟨g, 0, none⟩ : Addr).add j) = some u) ∧ ∀ u ∈ T1, u.oneCell' = true) := by
      refine ⟨by rw [hT1, rfcells_len]; simp; omega, fun W hW j u hu => ?_, by rw [hT1]; exact rf_one _⟩
      rw [addr_add]
      refine row_piece hW.2.1 0 (k * 3) j u ?_
      rw [List.drop_zero, rf_take, ← hT1]; exact hu
    have HT3 : Hid (T3.length = (l.length - (k + 1)) * 3 ∧ (∀ W, CloS w W R base g l cap → ∀ j u, T3[j]? = some u → W.cell? ((⟨g, (k + 1) * 3, none⟩ : Addr).add j) = some u) ∧ ∀ u ∈ T3, u.oneCell' = true) := by
      refine ⟨by rw [hT3, rfcells_len]; simp, fun W hW j u hu => ?_, by rw [hT3]; exact rf_one _⟩
      rw [addr_add]
      refine row_piece hW.2.1 ((k + 1) * 3) ((l.length - (k + 1)) * 3) j u ?_
      rw [rf_drop, ← hT3, List.take_of_length_le (by rw [hT3, rfcells_len]; simp)]; exact hu
    have HE : Hid (T1 ++ T3 = (l.take k ++ l.drop (k + 1)).flatMap Rf.cells ∧ (l.take k ++ l.drop (k + 1)).length = (k + (l.length - (k + 1)))) := by
      refine ⟨by rw [hT1, hT3]; simp, by simp; omega⟩
    clear hT1 hT3
    generalize l.take k ++ l.drop (k + 1) = l2 at *
    have HS0 : Hid (CloS w w R base g l cap) := ⟨h1, hrow, KeptR.refl _ _ _⟩
    have hlt : Hid (k + (l.length - (k + 1)) ≤ 1000 ∧ k < l.length) := ⟨by omega, hk⟩
    have i1 : (0 : Int) ≤ (k : Int) := by omega
    have i2 : (k : Int) < (l.length : Int) := by omega
    have i3 : (k : Int) ≤ (cap : Int) := by omega
    have i4 : (k : Int) + 1 ≤ (l.length : Int) := by omega
    have i5 : (0 : Int) ≤ (k : Int) + 1 := by omega
    have i6 : (l.length : Int) ≤ (cap : Int) := by omega
    have i7 : (l.length : Int) ≤ 1000 := by omega
    have hneg : ¬ ((k : Int) < 0) := by omega
    have iw : IntKind.i64.wrap ((k : Int) + 1) = (k : Int) + 1 := IntWalk.i64_in _ (by omega)
    have HS1 : Hid (CloS w w.drew R base g l cap) := ⟨h1.drew, hrow.drew, KeptR.of_below ((Below.refl w.heap.size w).drew) hb⟩
    have d1 : w.drew.cell? ⟨R, 0, none⟩ = some (.slice (some ⟨g, 0, none⟩) l.length cap) := d0
    clear hi hi0 hz0 hz1 hz2 hx a0 a1 a2 h2 hl3
    go_enter Try.func16, Try.ntmps16
    go_wp2_with fail
    refine HA.out.mono ?_
    rintro e w1 ⟨rfl, rfl⟩
    go_wp2_with fail
    clear h1 hrow
    go_region_law (first | (refine step_append_own rfl (.const (.slice none 0 0)) (.tmp 28) 35 rfl w.heap.size 64 i0 (.agg #[.int .i64 0, .int .i64 0, .int .i64 0]) 3 24 Try.underlying35 HI.out.1 HI.out.2.1 HI.out.2.2.1 HI.out.2.2.2 rfl (by decide) (.slice none 0 0) 0 [] (by rfl) (World.ownsRow_nil w.drew w.heap.size 64 3) ⟨g, 0, none⟩ k cap T1 (by simp [Act.eval, Act.put]) HT1.out.1 (HT1.out.2.1 w.drew HS1.out) HT1.out.2.2 (by have := hlt.out.1; unfold maxLen; omega) (by have := hlt.out.1; omega) (Nat.le_refl w.heap.size) ?_; intro v5 w5 own5 grow5; have HG5 := Lib.hid grow5; have HO5 := Lib.hid own5; have HS5 := Lib.hid (HS1.out.grown grow5 (fun j hj => by simp [Value.ownBlock] at hj) hRl hgl hb); have C5 : w5.cell? ⟨R, 0, none⟩ = some (.slice (some ⟨g, 0, none⟩) l.length cap) := HS5.out.1.cell 0 (by simp); clear own5 grow5) | (refine step_append_own rfl (.tmp 29) (.tmp 36) 35 rfl w.heap.size 64 i0 (.agg #[.int .i64 0, .int .i64 0, .int .i64 0]) 3 24 Try.underlying35 HI.out.1 HI.out.2.1 HI.out.2.2.1 HI.out.2.2.2 rfl (by decide) v5 (0 + k) ([] ++ T1) (by simp [Act.eval, Act.put]) HO5.out ⟨g, (k + 1) * 3, none⟩ (l.length - (k + 1)) (cap - (k + 1)) T3 (by simp [Act.eval, Act.put]) HT3.out.1 (HT3.out.2.1 w5 HS5.out) HT3.out.2.2 (by have := hlt.out.1; unfold maxLen; omega) (by have := hlt.out.1; omega) (by have := HG5.out.size; exact this) ?_; intro v6 w6 own6 grow6; obtain ⟨a6, cap6, rfl⟩ := own_form own6; have HO6 := Lib.hid own6; have HG6 := Lib.hid grow6; have hlo5 : ∀ j, v5.ownBlock = some j → w.heap.size ≤ j := (fun j hj => (HO5.out.lt j hj).1); have HS6 := Lib.hid (HS5.out.grown grow6 hlo5 hRl hgl hb); have C6 : w6.cell? ⟨R, 0, none⟩ = some (.slice (some ⟨g, 0, none⟩) l.length cap) := HS6.out.1.cell 0 (by simp); have F6 := HS6.out.1.frozen 0 (by simp); have L6 := HS6.out.1.lt; clear own6 grow6 hlo5) | fail)
    all_goals
     have HR6 : Hid (RO (w6.setCell ⟨R, 0, none⟩ (.slice a6 (k + (l.length - (k + 1))) cap6)) R base l2 ∧ KeptR R base w (w6.setCell ⟨R, 0, none⟩ (.slice a6 (k + (l.length - (k + 1))) cap6)) ∧ l2.length ≤ 1000 ∧ FarR R w (w6.setCell ⟨R, 0, none⟩ (.slice a6 (k + (l.length - (k + 1))) cap6))) := by
       refine ⟨⟨hR, .slice a6 (k + (l.length - (k + 1))) cap6, HS6.out.1.set 0 _, ?_⟩, HS6.out.2.2.trans (KeptR.set _ _ _ _ _), by rw [HE.out.2]; have := hlt.out.1; omega, fun j hj hne _ => ?_⟩
       rotate_left
       · rw [Below.heap_setCell _ _ _ _ (by exact hne), HG6.out.block j (by have := HG5.out.size; have e : w.drew.heap.size = w.heap.size := rfl; omega) (fun e => by have := (HO5.out.lt j e.symm).1; omega), HG5.out.block j hj (fun e => by simp [Value.ownBlock] at e)]
         rfl
       have h7 : w6.ownsRow w.heap.size 64 3 (.slice a6 (k + (l.length - (k + 1))) cap6) (k + (l.length - (k + 1))) (T1 ++ T3) := by
         have := HO6.out
         rw [List.nil_append, Nat.zero_add] at this
         exact this
       have h8 := own_less (own_other h7 ⟨R, 0, none⟩ (.slice a6 (k + (l.length - (k + 1))) cap6) (by exact hRl)) hb
       rw [HE.out.1] at h8
       rw [HE.out.2]
       exact h8
     clear C6 F6 HS6 HO6 C5 HS5 HO5 HG5 HG6 d1 d0 L6
     go_wp2_with fail
     refine (rhas R l2 x.n _ HR6.out.1.rt HR6.out.2.2.1).mono ?_
     rintro e w7 ⟨rfl, rfl⟩
     go_wp2_with fail
     go_ret3
     exact ⟨rfl, HR6.out.1, HR6.out.2.1, HR6.out.2.2.2⟩

end Go.Proofs.Ythnnmhnddpghfaa
