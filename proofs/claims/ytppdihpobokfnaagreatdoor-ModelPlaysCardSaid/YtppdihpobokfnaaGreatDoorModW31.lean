/- A part of a proof. -/
import Derived.Test.YtppdihpobokfnaaGreatDoorModW27
set_option linter.unusedVariables false
set_option linter.unusedSimpArgs false
set_option maxRecDepth 100000
namespace Go.Proofs.YtppdihpobokfnaaGreatDoor
open Go.RowKit Go.Joins Go.Maps
theorem mnew_bad (n : Int) (w : World) (hn : n < 8 ∨ 512 < n) : Calls Tryz.prog 18 #[.int .i64 n] w fun e w' => e = .returned (.tuple #[.pointer none, .int .i64 2]) ∧ w = w' := by
 rcases hn with c | c
 · go_enter Tryz.func18, Tryz.ntmps18
   go_wp2_with fail
   go_ret2
   exact ⟨rfl, rfl⟩
 · have c' : ¬ n < 8 := by omega
   go_enter Tryz.func18, Tryz.ntmps18
   go_wp2_with fail
   go_ret2
   exact ⟨rfl, rfl⟩
def newL (nm tb mb nb g : Nat) (b : Nat) : Option Lab := if b = nm then some .nodes else if b = tb then some .table else if b = mb then some .model else if b = nb then some (.names 0) else if b = g then some (.node 0) else none
def newR (nm tb mb nb g : Nat) : Rp := ⟨mb, nm, tb, [(0, g)], fun _ => nb, fun _ => nilS, newL nm tb mb nb g⟩
theorem newR_at {W : World} {nm tb mb nb g n : Nat} (hd : nm < tb ∧ tb < mb ∧ mb < nb ∧ nb < g ∧ g < W.heap.size) (hr : RowAt W mb [.bool true, .int .i64 (n : Int), .map (some nm), .int .i64 1, ptrTo tb]) (ht : TabAt W tb true zeroT)
  (hm : W.ownsMap Tryz.prog 3 heldV nm 1 (layD [(0, g)])) (hg : RowAt W g [.int .i64 2, .int .i64 2, .bool false, nilS, .map (some nb), .int .i64 0]) (hb : W.ownsMap Tryz.prog 9 (plainElem (H := Value) Tryz.prog 3) nb 0 (.map [])) : MdAt W (newR nm tb mb nb g) (newP n) := by
 obtain ⟨h1, h2, h3, h4, h5⟩ := hd
 have lm : newL nm tb mb nb g mb = some .model := by unfold newL; rw [if_neg (by omega), if_neg (by omega), if_pos rfl]
 have ln : newL nm tb mb nb g nm = some .nodes := by unfold newL; rw [if_pos rfl]
 have lt : newL nm tb mb nb g tb = some .table := by unfold newL; rw [if_neg (by omega), if_pos rfl]
 have lb : newL nm tb mb nb g nb = some (.names 0) := by unfold newL; rw [if_neg (by omega), if_neg (by omega), if_neg (by omega), if_pos rfl]
 have lg : newL nm tb mb nb g g = some (.node 0) := by unfold newL; rw [if_neg (by omega), if_neg (by omega), if_neg (by omega), if_neg (by omega), if_pos rfl]
 refine ⟨lm, ln, lt, hr, ht, hm, rfl, fun k d hk => ?_, fun b hb => ?_⟩
 · have hk' : lookK [(0, (⟨2, 2, false, [], [], 0⟩ : Nd))] k = some d := hk
   unfold lookK at hk'
   rw [List.find?_cons] at hk'
   cases hz : ((0 : Nat) == k) with
   | false => rw [hz] at hk'; simp at hk'
   | true =>
    rw [hz] at hk'
    have hz' : 0 = k := by simpa using hz
    subst hz'
    obtain rfl : (⟨2, 2, false, [], [], 0⟩ : Nd) = d := by simpa using hk'
    exact ⟨lg, hg, ownB_nil _ _, fun b hq => (by cases hq), fun _ => ⟨lb, hb⟩, fun h => absurd rfl h⟩
 · show b < W.heap.size
   have hb' : newL nm tb mb nb g b ≠ none := hb
   unfold newL at hb'
   repeat' split at hb'
   all_goals first | omega | exact absurd rfl hb'
set_option maxHeartbeats 4000000 in
theorem mnew (n : Nat) (w : World) (hn : 8 ≤ n ∧ n ≤ 512) : Calls Tryz.prog 18 #[.int .i64 (n : Int)] w fun e w' => ∃ R : Rp, e = .returned (.tuple #[.pointer (some ⟨R.mb, 0, none⟩), .int .i64 0]) ∧ MdAt w' R (newP n) ∧ Below w.heap.size w w' ∧ ∀ b, b < w.heap.size → R.L b = none := by
 have hmm := @run_makeMap Tryz.prog
 have h1 : ¬ (n : Int) < 8 := by omega
 have h2 : ¬ (512 : Int) < (n : Int) := by omega
 have o1 := World.ownsMap_made w Tryz.prog 3 heldV
 have b1 := ((Below.refl w.heap.size w).alloc (Nat.le_refl _) (.map #[] 0))
 have HH := Lh (hnew (w.alloc (.map #[] 0)))
 have O1 := Lh (And.intro o1 b1)
 clear hn o1 b1
 go_enter Tryz.func18, Tryz.ntmps18
 go_wp2_with fail
 refine HH.out.mono ?_
 rintro e W2 ⟨rfl, ht, hb⟩
 rw [World.size_alloc] at *
 have hz2 : w.heap.size + 1 < W2.heap.size := by have := ht.lt; omega
 have o2 := owns_same O1.out.1 (hb.block _ (by omega))
 have B2 := O1.out.2.trans (hb.mono (by omega))
 have HT := Lh (And.intro ht (And.intro o2 (And.intro B2 hz2)))
 clear ht hb O1 HH hz2 o2 B2
 go_upto_region 4 with fail
 obtain ⟨C1, hC1⟩ : ∃ C : Obj, C = .cells #[.bool true, .int .i64 (n : Int), .map (some w.heap.size), .int .i64 1, .pointer (some ⟨w.heap.size + 1, 0, none⟩)] 66 := ⟨_, rfl⟩
 obtain ⟨C2, hC2⟩ : ∃ C : Obj, C = .cells #[.int .i64 2, .int .i64 2, .bool false, .slice none 0 0, .map (some (W2.heap.size + 1)), .int .i64 0] 80 := ⟨_, rfl⟩
 have r1 := rowAt_alloc W2 #[.bool true, .int .i64 (n : Int), .map (some w.heap.size), .int .i64 1, .pointer (some ⟨w.heap.size + 1, 0, none⟩)] 66
 rw [← hC1] at r1 ⊢
 have z1 : (W2.alloc C1).heap.size = W2.heap.size + 1 := World.size_alloc _ _
 have z2 : ((W2.alloc C1).alloc (.map #[] 0)).heap.size = W2.heap.size + 2 := by rw [World.size_alloc, z1]
 have z3 : (((W2.alloc C1).alloc (.map #[] 0)).alloc C2).heap.size = W2.heap.size + 3 := by rw [World.size_alloc, z2]
 have g1 : Below W2.heap.size W2 (((W2.alloc C1).alloc (.map #[] 0)).alloc C2) := (((Below.refl _ _).alloc (Nat.le_refl _) _).alloc (by omega) _).alloc (by omega) _
 have g2 : Below (W2.heap.size + 1) (W2.alloc C1) (((W2.alloc C1).alloc (.map #[] 0)).alloc C2) := ((Below.refl _ _).alloc (by omega) _).alloc (by omega) _
 have g3 : Below (W2.heap.size + 2) ((W2.alloc C1).alloc (.map #[] 0)) (((W2.alloc C1).alloc (.map #[] 0)).alloc C2) := (Below.refl _ _).alloc (by omega) _
 have r1 := r1.below g2 (by omega)
 have o3 := World.ownsMap_made (W2.alloc C1) Tryz.prog 9 (plainElem (H := Value) Tryz.prog 3)
 rw [z1] at o3
 have o3 := owns_same o3 (g3.block _ (by omega))
 have r2 := rowAt_alloc ((W2.alloc C1).alloc (.map #[] 0)) #[.int .i64 2, .int .i64 2, .bool false, .slice none 0 0, .map (some (W2.heap.size + 1)), .int .i64 0] 80
 rw [← hC2, z2] at r2
 have o1 := owns_same HT.out.2.1 (g1.block _ (by have := HT.out.2.2.2; omega))
 have t1 := HT.out.1.below g1 (Nat.le_refl _)
 have B5 := HT.out.2.2.1.trans (g1.mono (by have := HT.out.2.2.2; omega))
 obtain ⟨W6, hst, hM, hG⟩ := o1.store keyed_int Tryz.underlying63 (by unfold maxLen; omega) (key := .int .i64 ((0 : Nat) : Int)) (val := ptrTo (W2.heap.size + 2)) (key_nat (k := 0) (by omega)) (d := .held (ptrTo (W2.heap.size + 2))) (ps := []) rfl
 have HT2 := Lh HT.out.2.2.2
 have hsame : ∀ b, b < W2.heap.size + 3 → b ≠ w.heap.size → W6.heap[b]? = (((W2.alloc C1).alloc (.map #[] 0)).alloc C2).heap[b]? := fun b hb hne => hG.grown.block b (by omega) (fun e => hne (by cases e; rfl))
 have F : Hid (MdAt W6 (newR w.heap.size (w.heap.size + 1) W2.heap.size (W2.heap.size + 1) (W2.heap.size + 2)) (newP n)) := by
  have hz := hG.grown.size
  refine newR_at ⟨by omega, HT2.out, by omega, by omega, by omega⟩ (r1.same (hsame _ (by omega) (by have := HT2.out; omega))) ⟨t1.1, t1.2.same (hsame _ (by have := HT2.out; omega) (by omega))⟩ hM (r2.same (hsame _ (by omega) (by have := HT2.out; omega))) (owns_same o3 (hsame _ (by omega) (by have := HT2.out; omega)))
 have FB := Lh (below_grown B5 hG.grown (Nat.le_refl _) (Nat.le_refl _))
 have c1 := (rowAt_alloc W2 #[.bool true, .int .i64 (n : Int), .map (some w.heap.size), .int .i64 1, .pointer (some ⟨w.heap.size + 1, 0, none⟩)] 66).cell 2 (by simp)
 rw [← hC1] at c1
 simp only [List.getElem?_cons_succ, List.getElem?_cons_zero] at c1
 unfold ptrTo at hst
 rw [hC2, show ((0 : Nat) : Int) = 0 from rfl] at hst
 clear hsame hM hG B5 t1 o1 r2 o3 r1 g1 g2 g3 z3 HT
 generalize W2.alloc C1 = W3 at *
 go_wp2_with fail
 go_ret2
 refine ⟨newR w.heap.size (w.heap.size + 1) W2.heap.size (W2.heap.size + 1) (W2.heap.size + 2), rfl, F.out, FB.out, fun b hb => ?_⟩
 show newL _ _ _ _ _ b = none
 have := HT2.out
 unfold newL
 rw [if_neg (by omega), if_neg (by omega), if_neg (by omega), if_neg (by omega), if_neg (by omega)]
end Go.Proofs.YtppdihpobokfnaaGreatDoor
