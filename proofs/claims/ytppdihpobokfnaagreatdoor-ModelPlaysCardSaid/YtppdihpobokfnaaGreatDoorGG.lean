/- A part of a proof. -/
import Derived.Shelf.Abstract
import Derived.Test.YtppdihpobokfnaaGreatDoorModW25
set_option linter.unusedVariables false
set_option linter.unusedSimpArgs false
set_option maxRecDepth 100000
namespace Go.Proofs.YtppdihpobokfnaaGreatDoor
open Go.RowKit Go.Joins
structure Keep (O O' : Nat → Prop) (W W' : World) : Prop where
 os : W'.os = W.os
 tape : W'.tape = W.tape
 output : W'.output = W.output
 size : W.heap.size ≤ W'.heap.size
 block : ∀ b, b < W.heap.size → ¬ O b → W'.heap[b]? = W.heap[b]?
 own : ∀ b, b < W.heap.size → O' b → O b
section
variable {O O' O'' : Nat → Prop} {W W' W1 W2 W3 : World}
theorem Keep.refl (O : Nat → Prop) (W : World) : Keep O O W W := ⟨rfl, rfl, rfl, Nat.le_refl _, fun _ _ _ => rfl, fun _ _ h => h⟩
theorem Keep.trans (h : Keep O O' W1 W2) (h' : Keep O' O'' W2 W3) : Keep O O'' W1 W3 :=
 ⟨h'.os.trans h.os, h'.tape.trans h.tape, h'.output.trans h.output, Nat.le_trans h.size h'.size,
  fun b hb ho => (h'.block b (Nat.lt_of_lt_of_le hb h.size) (fun q => ho (h.own b hb q))).trans (h.block b hb ho),
  fun b hb q => h.own b hb (h'.own b (Nat.lt_of_lt_of_le hb h.size) q)⟩
theorem Keep.below (hb : Below W.heap.size W W') : Keep O O W W' := ⟨hb.os, hb.tape, hb.output, hb.size, fun b h _ => hb.block b h, fun _ _ h => h⟩
theorem Keep.row {b : Nat} {xs : List Value} (h : Keep O O' W W') (hr : RowAt W b xs) (hn : ¬ O b) : RowAt W' b xs ∧ ¬ O' b := ⟨hr.same (h.block b hr.lt hn), fun q => hn (h.own b hr.lt q)⟩
end
structure Hand (R : Rp) (m : Md) (fn : Nat) (caps : Array Value) (S : List (Bs × Nat) → (Nat → Prop) → World → Prop) (B : Nat) : Prop where
 enters : Enters Tryz.prog fn
 md : ∀ l O W, S l O W → MdAt W R m
 below : ∀ l O W W', S l O W → Below W.heap.size W W' → S l O W'
 old : ∀ l O W b, S l O W → O b → b < W.heap.size
 call : ∀ l O W (p : ByteArray) k, S l O W → l.length < B → p.size ≤ 1000000 → There m k → Calls Tryz.prog fn (#[.string p, .int .i64 (k : Int)] ++ caps) W fun e W' => e = .returned (.tuple #[]) ∧ ∃ O', S (l ++ [(bts p, k)]) O' W' ∧ Keep O O' W W'
section
variable {W : World} {R : Rp} {m : Md} {k : Nat} {d : Nd}
theorem NodeAt.look1 (h : NodeAt W R k d) (hd : d.kind = 2) {s : ByteArray} (hs : s.size ≤ 1000000000) {j : Nat} (hj : lookN d.names (bts s) = some j) : (Instr.lookup 77 (.map (some (R.nb k))) (.string s) false).run Tryz.prog W = .ok (.int .i64 (j : Int)) W := by
 obtain ⟨v, ps, hrun, hv⟩ := (h.names hd).2.lookup keyed_str Tryz.underlying77 (zero_int W) (plainElem_int (H := Value) Tryz.underlying3 (q := .i64) (a := 0) (by decide)) (key_txt hs)
 obtain ⟨c, rfl, hc, _⟩ := plainElem_int_inv Tryz.underlying3 hv
 have hc := congrArg Prod.fst hc
 simp only [namD_at, hj] at hc
 injection hc with hc
 injection hc with _ hc
 rw [hrun, ← hc]
end
theorem row_form {W : World} {base : Nat} {e : TypeId} {v : Value} {xs : List Value} (h : W.ownsRow base e 1 v xs.length xs) : (xs = [] ∧ v = nilS) ∨ ∃ g cap, v = .slice (some ⟨g, 0, none⟩) xs.length cap ∧ RowAt W g xs ∧ base ≤ g := by
 obtain ⟨h1, h2⟩ := h
 rcases h2 with ⟨rfl, h2⟩ | ⟨g, cap, cur, rfl, hg, hc, hn, hm, hs, ht⟩
 · exact .inl ⟨List.length_eq_zero_iff.1 h2, rfl⟩
 · refine .inr ⟨g, cap, rfl, ⟨cur, _, 0, 0, hc, fun i hi => ?_, fun i hi => by omega⟩, hg⟩
   rw [Nat.mul_one] at ht
   rw [← Array.getElem?_toList]
   have h9 : (cur.toList.take xs.length)[i]? = xs[i]? := by rw [ht]
   rw [List.getElem?_take_of_lt hi] at h9
   exact h9
theorem seenP_file {m : Md} {k : Nat} {d : Nd} (hk : lookK m.nodes k = some d) (hn : d.names = []) (f : Nat) (path : Bs) : seenP m f k path = [(path, k)] := by
 cases f with
 | zero => rfl
 | succ f => rw [seenP, Md.get_look hk, hn]; rfl
end Go.Proofs.YtppdihpobokfnaaGreatDoor
set_option linter.unusedVariables false
set_option linter.unusedSimpArgs false
set_option maxRecDepth 100000
namespace Go.Proofs.YtppdihpobokfnaaGreatDoor
open Go.RowKit Go.Joins Go.Maps Go.Sort
theorem take_one {α : Type} {l : List α} {i : Nat} {x : α} (h : l[i]? = some x) : l.take (i + 1) = l.take i ++ [x] := by
 obtain ⟨hi, e⟩ := List.getElem?_eq_some_iff.1 h
 rw [List.take_succ_eq_append_getElem hi, e]
theorem flat_take_le {α β : Type} (l : List α) (G : α → List β) (i : Nat) : ((l.take i).flatMap G).length ≤ (l.flatMap G).length := by
 have h : l.flatMap G = (l.take i).flatMap G ++ (l.drop i).flatMap G := by rw [← List.flatMap_append, List.take_append_drop]
 rw [h, List.length_append]
 omega
theorem bts_tx2 (l : Bs) : bts (tx l) = l := by simp [bts, tx]
theorem strs_names (n : List (Bs × Nat)) {i : Nat} {x : Bs × Nat} (h : n[i]? = some x) : (strs ((n.map (·.1)).map tx))[i]? = some (.string (tx x.1)) := by
 simp [strs, List.getElem?_map, h]
section
variable {R : Rp} {m : Md} {fn : Nat} {caps : Array Value} {S : List (Bs × Nat) → (Nat → Prop) → World → Prop} {B N : Nat} {dep : Nat → Nat}
set_option maxHeartbeats 8000000 in
theorem mseen_file (hH : Hand R m fn caps S B) (hG : Good m) (f k : Nat) (p : ByteArray) (l : List (Bs × Nat)) (O : Nat → Prop) (w : World) (d : Nd) (hk : lookK m.nodes k = some d) (hn : d.names = []) (hS : S l O w) (hl : l.length + (seenP m f k (bts p)).length ≤ B) (hp : p.size ≤ 1000000) :
  Calls Tryz.prog 58 #[.pointer (some ⟨R.mb, 0, none⟩), .int .i64 (k : Int), .string p, .func (Fn.func fn) #[] caps] w fun e w' => e = .returned (.tuple #[]) ∧ ∃ O', S (l ++ seenP m f k (bts p)) O' w' ∧ Keep O O' w w' := by
 rw [seenP_file hk hn] at hl ⊢
 have HH := Lh hH
 have HG := Lh hG
 have HK := Lh (And.intro hk hn)
 have HC := Lh (hH.call l O w p k hS (by simp at hl; omega) hp ⟨d, hk⟩)
 have hE := hH.enters
 unfold Enters at hE
 clear hH hG hk hn hS hl
 go_enter Tryz.func58, Tryz.ntmps58
 go_wp2_with fail
 refine HC.out.mono ?_
 rintro e W1 ⟨rfl, O1, hS1, hK1⟩
 have HS := Lh hS1
 have HKP := Lh hK1
 have HM := Lh (HH.out.md _ _ _ hS1)
 clear hS1 hK1 HC
 obtain ⟨m0, m1, m2, m3, m4⟩ := HM.out.cells
 have hlk := HM.out.look HK.out.1 (by have := HG.out.small HK.out.1; omega)
 obtain ⟨e0, e1, e2, e3, e4, e5⟩ := (HM.out.nodes _ _ HK.out.1).cells
 by_cases c : bts p = [47]
 · obtain ⟨c1, c2⟩ := txt_yes c
   clear c
   by_cases hd : d.kind = 2
   · rw [if_pos hd] at e4
     have HO := Lh (Tryz.slices_Sorted_keys_102_103 (R.nb k) d.names.length (namD d.names) (plainElem (H := Value) Tryz.prog 3) W1 ((HM.out.nodes _ _ HK.out.1).names hd).2 (by rw [namD_size, HK.out.2]; decide) (by rw [namD_size, HK.out.2]; decide))
     go_wp2_with fail
     refine (callsIn_wide.1 (Tryz.maps_Keys_103 (some (R.nb k)) _)).mono ?_
     rintro e W2 ⟨rfl, hw2⟩
     subst hw2
     go_wp2_with fail
     refine (callsIn_wide.1 HO.out).mono ?_
     rintro e W3 ⟨v, ss, rfl, hperm, hrow, hnil, hb⟩
     have hss : ss = [] := by
      have h9 := hperm
      rw [HK.out.2] at h9
      simpa [namD, strKeys] using h9
     have hv : v = .slice none 0 0 := hnil.2 hss
     have HF := Lh (((Below.refl W1.heap.size W1).alloc (Nat.le_refl _) (.cells #[.map (some (R.nb k))] 77)).trans (hb.mono (by simp)))
     subst hv
     clear hperm hrow hnil hb hss HO
     go_wp2_with fail
     refine wp_loop_rounds 1 ?_
     rw [rounds_succ]
     go_wp2_with fail
     go_end0
     exact ⟨rfl, _, HH.out.below _ _ _ _ HS.out HF.out, HKP.out.trans (Keep.below HF.out)⟩
   · rw [if_neg hd] at e4
     have HO := Lh (Tryz.slices_Sorted_keys_nil_102_103 W1)
     go_wp2_with fail
     refine (callsIn_wide.1 (Tryz.maps_Keys_103 none _)).mono ?_
     rintro e W2 ⟨rfl, hw2⟩
     subst hw2
     go_wp2_with fail
     refine (callsIn_wide.1 HO.out).mono ?_
     rintro e W3 ⟨v, ss, rfl, hss, hrow, hnil, hb⟩
     have hv : v = .slice none 0 0 := hnil.2 hss
     have HF := Lh (((Below.refl W1.heap.size W1).alloc (Nat.le_refl _) (.cells #[.map none] 77)).trans (hb.mono (by simp)))
     subst hv
     clear hrow hnil hb hss HO
     go_wp2_with fail
     refine wp_loop_rounds 1 ?_
     rw [rounds_succ]
     go_wp2_with fail
     go_end0
     exact ⟨rfl, _, HH.out.below _ _ _ _ HS.out HF.out, HKP.out.trans (Keep.below HF.out)⟩
 · obtain ⟨c1, c2⟩ := txt_no c
   clear c
   by_cases hd : d.kind = 2
   · rw [if_pos hd] at e4
     have HO := Lh (Tryz.slices_Sorted_keys_102_103 (R.nb k) d.names.length (namD d.names) (plainElem (H := Value) Tryz.prog 3) W1 ((HM.out.nodes _ _ HK.out.1).names hd).2 (by rw [namD_size, HK.out.2]; decide) (by rw [namD_size, HK.out.2]; decide))
     go_wp2_with fail
     refine (callsIn_wide.1 (Tryz.maps_Keys_103 (some (R.nb k)) _)).mono ?_
     rintro e W2 ⟨rfl, hw2⟩
     subst hw2
     go_wp2_with fail
     refine (callsIn_wide.1 HO.out).mono ?_
     rintro e W3 ⟨v, ss, rfl, hperm, hrow, hnil, hb⟩
     have hss : ss = [] := by
      have h9 := hperm
      rw [HK.out.2] at h9
      simpa [namD, strKeys] using h9
     have hv : v = .slice none 0 0 := hnil.2 hss
     have HF := Lh (((Below.refl W1.heap.size W1).alloc (Nat.le_refl _) (.cells #[.map (some (R.nb k))] 77)).trans (hb.mono (by simp)))
     subst hv
     clear hperm hrow hnil hb hss HO
     go_wp2_with fail
     refine wp_loop_rounds 1 ?_
     rw [rounds_succ]
     go_wp2_with fail
     go_end0
     exact ⟨rfl, _, HH.out.below _ _ _ _ HS.out HF.out, HKP.out.trans (Keep.below HF.out)⟩
   · rw [if_neg hd] at e4
     have HO := Lh (Tryz.slices_Sorted_keys_nil_102_103 W1)
     go_wp2_with fail
     refine (callsIn_wide.1 (Tryz.maps_Keys_103 none _)).mono ?_
     rintro e W2 ⟨rfl, hw2⟩
     subst hw2
     go_wp2_with fail
     refine (callsIn_wide.1 HO.out).mono ?_
     rintro e W3 ⟨v, ss, rfl, hss, hrow, hnil, hb⟩
     have hv : v = .slice none 0 0 := hnil.2 hss
     have HF := Lh (((Below.refl W1.heap.size W1).alloc (Nat.le_refl _) (.cells #[.map none] 77)).trans (hb.mono (by simp)))
     subst hv
     clear hrow hnil hb hss HO
     go_wp2_with fail
     refine wp_loop_rounds 1 ?_
     rw [rounds_succ]
     go_wp2_with fail
     go_end0
     exact ⟨rfl, _, HH.out.below _ _ _ _ HS.out HF.out, HKP.out.trans (Keep.below HF.out)⟩
set_option maxHeartbeats 16000000 in
theorem mseen_dir (hH : Hand R m fn caps S B) (hI : Inv N Nul m) (hN : N ≤ 900000) (hdep : ∀ k d, lookK m.nodes k = some d → d.kind = 2 → k ≠ 0 → dep d.par < dep k) (f : Nat)
  (ih : ∀ (k : Nat) (p : ByteArray) (l : List (Bs × Nat)) (O : Nat → Prop) (w : World), There m k → Fit m dep f k → S l O w → l.length + (seenP m f k (bts p)).length ≤ B → p.size + 40 * (f + 1) ≤ 1000000 →
    Calls Tryz.prog 58 #[.pointer (some ⟨R.mb, 0, none⟩), .int .i64 (k : Int), .string p, .func (Fn.func fn) #[] caps] w fun e w' => e = .returned (.tuple #[]) ∧ ∃ O', S (l ++ seenP m f k (bts p)) O' w' ∧ Keep O O' w w')
  (k : Nat) (p : ByteArray) (l : List (Bs × Nat)) (O : Nat → Prop) (w : World) (d : Nd) (hk : lookK m.nodes k = some d) (h2 : d.kind = 2) (hn : d.names ≠ []) (hF : Fit m dep (f + 1) k) (hS : S l O w) (hl : l.length + (seenP m (f + 1) k (bts p)).length ≤ B) (hp : p.size + 40 * (f + 2) ≤ 1000000) :
  Calls Tryz.prog 58 #[.pointer (some ⟨R.mb, 0, none⟩), .int .i64 (k : Int), .string p, .func (Fn.func fn) #[] caps] w fun e w' => e = .returned (.tuple #[]) ∧ ∃ O', S (l ++ seenP m (f + 1) k (bts p)) O' w' ∧ Keep O O' w w' := by
 have HH := Lh hH
 have HI := Lh hI
 have HG := Lh (hI.good hN)
 have HDP := Lh hdep
 have IH := Lh ih
 have FT := Lh hF
 have HK := Lh (And.intro hk (And.intro h2 hn))
 have hl2 := hl
 rw [seenP, List.length_cons] at hl2
 have HC := Lh (hH.call l O w p k hS (by omega) (by omega) ⟨d, hk⟩)
 have hE := hH.enters
 unfold Enters at hE
 clear hH hI ih hdep hF hS hn h2 hl
 rw [Md.get_look hk] at hl2
 have HL0 := Lh hl2
 clear hk hl2
 go_enter Tryz.func58, Tryz.ntmps58
 go_wp2_with fail
 refine HC.out.mono ?_
 rintro e W1 ⟨rfl, O1, hS1, hK1⟩
 have HS := Lh hS1
 have HKP := Lh hK1
 have HM := Lh (HH.out.md _ _ _ hS1)
 clear hS1 hK1 HC
 obtain ⟨m0, m1, m2, m3, m4⟩ := HM.out.cells
 have hlk := HM.out.look HK.out.1 (by have := HG.out.small HK.out.1; omega)
 obtain ⟨e0, e1, e2, e3, e4, e5⟩ := (HM.out.nodes _ _ HK.out.1).cells
 by_cases c : bts p = [47]
 · obtain ⟨c1, c2⟩ := txt_yes c
   have HL : Hid (l.length + ((d.names.flatMap fun x => seenP m f x.2 ((if bts p = [47] then [] else bts p) ++ 47 :: x.1)).length + 1) ≤ B) := HL0
   have hQs : (⟨#[]⟩ : ByteArray).size ≤ p.size := Nat.zero_le _
   have hQb : bts (⟨#[]⟩ : ByteArray) = if bts p = [47] then [] else bts p := by rw [if_pos c]
   have HQ := Lh (And.intro hQs hQb)
   clear hQs hQb c
   rw [if_pos HK.out.2.1] at e4
   have HO := Lh (Tryz.slices_Sorted_keys_102_103 (R.nb k) d.names.length (namD d.names) (plainElem (H := Value) Tryz.prog 3) W1 ((HM.out.nodes _ _ HK.out.1).names HK.out.2.1).2 (by rw [namD_size]; have := HG.out.nlen _ _ HK.out.1; unfold maxLen; omega) (by rw [namD_size]; have := HG.out.nlen _ _ HK.out.1; omega))
   go_wp2_with fail
   refine (callsIn_wide.1 (Tryz.maps_Keys_103 (some (R.nb k)) _)).mono ?_
   rintro e W2 ⟨rfl, hw2⟩
   subst hw2
   go_wp2_with fail
   refine (callsIn_wide.1 HO.out).mono ?_
   rintro e W3 ⟨v, ss, rfl, hperm, hrow, hnil, hb⟩
   rw [keys_sorted (HI.out.sorted k d HK.out.1) hperm, strs_enc] at hrow
   have hlen : ss.length = (strs ((d.names.map (·.1)).map tx)).length := by
    have := hperm.length_eq
    simp [strKeys, namD, strs] at this ⊢
    exact this
   rw [hlen] at hrow
   have hln : (strs ((d.names.map (·.1)).map tx)).length = d.names.length := by simp [strs]
   have HF := Lh (((Below.refl W1.heap.size W1).alloc (Nat.le_refl _) (.cells #[.map (some (R.nb k))] 77)).trans (hb.mono (by simp)))
   rcases row_form hrow with ⟨q, _⟩ | ⟨g, cap, hv, hrw, hg⟩
   · exact absurd (by rw [q] at hln; exact List.length_eq_zero_iff.1 hln.symm) HK.out.2.2
   rw [hln] at hv
   subst hv
   have hg1 : W1.heap.size ≤ g := by have := hg; rw [World.size_alloc] at this; omega
   have HR0 := Lh (And.intro hrw hg1)
   clear hperm hrow hnil hb hlen hrw hg hg1 HO hln hlk e0 e1 e2 e3 e5 m0 m1 m3 m4 ss
   have hS3 := HH.out.below _ _ _ _ HS.out HF.out
   have hK3 : Keep O O1 w W3 := HKP.out.trans (Keep.below HF.out)
   have hng : ¬ O1 g := fun q => by have := HH.out.old _ _ _ _ HS.out q; have := HR0.out.2; omega
   have HT := Lh (And.intro hS3 (And.intro hK3 hng))
   clear hS3 hK3 hng HS HKP HF HM e4 m2
   go_wp2_with fail
   go_loopw [30] (fun jj wr => ∃ (i : Nat) (O2 : Nat → Prop), i ≤ d.names.length ∧ jj = .int .i64 (i : Int) ∧ Hid (S (l ++ (bts p, k) :: (d.names.take i).flatMap fun x => seenP m f x.2 (bts (⟨#[]⟩ : ByteArray) ++ 47 :: x.1)) O2 wr ∧ Keep O O2 w wr ∧ RowAt wr g (strs ((d.names.map (·.1)).map tx)) ∧ ¬ O2 g)) (fun jj _ => d.names.length - (intOf jj).toNat)
   case atStart => exact ⟨0, O1, by omega, rfl, by simpa using HT.out.1, HT.out.2.1, HR0.out.1, HT.out.2.2⟩
   case round =>
    obtain ⟨i, O2, hi, rfl, HW⟩ := hrel
    by_cases hlt : i < d.names.length
    · obtain ⟨x, hx⟩ : ∃ x, d.names[i]? = some x := ⟨_, List.getElem?_eq_getElem hlt⟩
      have hxm := List.mem_of_getElem? hx
      obtain ⟨hc, _⟩ : wr.cell? ⟨g, i, none⟩ = some (.string (tx x.1)) ∧ True := ⟨(HW.out.2.2.1.cell i (by simp [strs]; exact hlt)).trans (strs_names d.names hx), trivial⟩
      have hM := HH.out.md _ _ _ HW.out.1
      obtain ⟨e0, e1, e2, e3, e4, e5⟩ := (hM.nodes _ _ HK.out.1).cells
      rw [if_pos HK.out.2.1] at e4
      clear e0 e1 e2 e3 e5
      have hnm := HI.out.nm _ ((HI.out.mem (e := ⟨k, x.1, x.2⟩)).2 ⟨d, HK.out.1, hxm⟩)
      have hxl : x.1.length ≤ 32 := (nmOk_iff.1 hnm.1).2.1
      have hsz : (tx x.1).size = x.1.length := by simp [tx, ByteArray.size]
      have hlk := (hM.nodes _ _ HK.out.1).look1 HK.out.2.1 (s := tx x.1) (j := x.2) (by omega) (by rw [bts_tx2]; exact lookN_of_mem (HI.out.shape k d HK.out.1).2.1 hxm)
      have h1 : (i : Int) < (d.names.length : Int) := by omega
      have h2 : (0 : Int) ≤ (i : Int) := by omega
      have h3 : (d.names.length : Int) ≤ 1000000 := by have := HG.out.nlen _ _ HK.out.1; omega
      have hm1 : ¬ maxLen < (⟨#[]⟩ : ByteArray).size + 1 := by have := HQ.out.1; unfold maxLen; omega
      have hm2 : ¬ maxLen < ((⟨#[]⟩ : ByteArray) ++ ⟨#[47]⟩).size + (tx x.1).size := by rw [ByteArray.size_append, hsz]; have := HQ.out.1; show ¬ maxLen < (⟨#[]⟩ : ByteArray).size + 1 + _; unfold maxLen; omega
      have hm3 : ¬ maxLen < (⟨#[]⟩ : ByteArray).size + 1 + (tx x.1).size := by rw [hsz]; have := HQ.out.1; unfold maxLen; omega
      have hm4 : ¬ maxLen < (⟨#[]⟩ : ByteArray).size + (⟨#[47]⟩ : ByteArray).size := hm1
      have hm5 : ¬ maxLen < (⟨#[]⟩ : ByteArray).size + (⟨#[47]⟩ : ByteArray).size + (tx x.1).size := hm3
      have hpb : bts ((⟨#[]⟩ : ByteArray) ++ ⟨#[47]⟩ ++ tx x.1) = bts (⟨#[]⟩ : ByteArray) ++ 47 :: x.1 := by simp [bts, tx]
      have htot : ((d.names.take (i + 1)).flatMap fun x => seenP m f x.2 (bts (⟨#[]⟩ : ByteArray) ++ 47 :: x.1)).length ≤ (d.names.flatMap fun x => seenP m f x.2 (bts (⟨#[]⟩ : ByteArray) ++ 47 :: x.1)).length := flat_take_le _ _ _
      have hstep : ((d.names.take (i + 1)).flatMap fun x => seenP m f x.2 (bts (⟨#[]⟩ : ByteArray) ++ 47 :: x.1)) = ((d.names.take i).flatMap fun x => seenP m f x.2 (bts (⟨#[]⟩ : ByteArray) ++ 47 :: x.1)) ++ seenP m f x.2 (bts (⟨#[]⟩ : ByteArray) ++ 47 :: x.1) := by
       rw [take_one hx, List.flatMap_append]
       simp
      have hcall := IH.out x.2 ((⟨#[]⟩ : ByteArray) ++ ⟨#[47]⟩ ++ tx x.1) (l ++ (bts p, k) :: (d.names.take i).flatMap fun x => seenP m f x.2 (bts (⟨#[]⟩ : ByteArray) ++ 47 :: x.1)) O2 wr (by
        obtain ⟨_, dx, hdx, _⟩ := HI.out.there _ ((HI.out.mem (e := ⟨k, x.1, x.2⟩)).2 ⟨d, HK.out.1, hxm⟩)
        exact ⟨dx, hdx⟩) (FT.out.child HDP.out HI.out HK.out.1 hxm) HW.out.1 (by
        rw [hpb]
        rw [hstep, List.length_append] at htot
        have := HL.out
        rw [← HQ.out.2] at this
        rw [List.length_append, List.length_cons]
        omega) (by
        rw [ByteArray.size_append, ByteArray.size_append, hsz]
        show (⟨#[]⟩ : ByteArray).size + 1 + x.1.length + _ ≤ _
        have := HQ.out.1
        omega)
      rw [hpb] at hcall
      have HCL := Lh hcall
      have HST := Lh hstep
      clear hcall hstep htot hpb hnm hxl hsz hM hxm hlt
      go_wp2_with fail
      refine HCL.out.mono ?_
      rintro e W5 ⟨rfl, O3, hS5, hK5⟩
      have HW5 := Lh (And.intro hS5 (And.intro (HW.out.2.1.trans hK5) (hK5.row HW.out.2.2.1 HW.out.2.2.2)))
      clear hS5 hK5 HCL
      go_wp2_with fail
      go_roundw
      case rel =>
       refine ⟨i + 1, O3, by omega, by go_num, ?_, HW5.out.2.1, HW5.out.2.2.1, HW5.out.2.2.2⟩
       have := HW5.out.1
       rw [HST.out, ← List.cons_append, ← List.append_assoc]
       exact this
      case measure => simp [intOf]; omega
    · have h1 : ¬ (i : Int) < (d.names.length : Int) := by omega
      have hie : i = d.names.length := by omega
      clear hlt
      go_wp2_with fail
      go_end0
      subst hie
      refine ⟨rfl, O2, ?_, HW.out.2.1⟩
      have := HW.out.1
      rw [List.take_length] at this
      rw [seenP, Md.get_look HK.out.1]
      rw [← HQ.out.2]
      exact this
 · obtain ⟨c1, c2⟩ := txt_no c
   have HL : Hid (l.length + ((d.names.flatMap fun x => seenP m f x.2 ((if bts p = [47] then [] else bts p) ++ 47 :: x.1)).length + 1) ≤ B) := HL0
   have hQs : p.size ≤ p.size := Nat.le_refl _
   have hQb : bts p = if bts p = [47] then [] else bts p := by rw [if_neg c]
   have HQ := Lh (And.intro hQs hQb)
   clear hQs hQb c
   rw [if_pos HK.out.2.1] at e4
   have HO := Lh (Tryz.slices_Sorted_keys_102_103 (R.nb k) d.names.length (namD d.names) (plainElem (H := Value) Tryz.prog 3) W1 ((HM.out.nodes _ _ HK.out.1).names HK.out.2.1).2 (by rw [namD_size]; have := HG.out.nlen _ _ HK.out.1; unfold maxLen; omega) (by rw [namD_size]; have := HG.out.nlen _ _ HK.out.1; omega))
   go_wp2_with fail
   refine (callsIn_wide.1 (Tryz.maps_Keys_103 (some (R.nb k)) _)).mono ?_
   rintro e W2 ⟨rfl, hw2⟩
   subst hw2
   go_wp2_with fail
   refine (callsIn_wide.1 HO.out).mono ?_
   rintro e W3 ⟨v, ss, rfl, hperm, hrow, hnil, hb⟩
   rw [keys_sorted (HI.out.sorted k d HK.out.1) hperm, strs_enc] at hrow
   have hlen : ss.length = (strs ((d.names.map (·.1)).map tx)).length := by
    have := hperm.length_eq
    simp [strKeys, namD, strs] at this ⊢
    exact this
   rw [hlen] at hrow
   have hln : (strs ((d.names.map (·.1)).map tx)).length = d.names.length := by simp [strs]
   have HF := Lh (((Below.refl W1.heap.size W1).alloc (Nat.le_refl _) (.cells #[.map (some (R.nb k))] 77)).trans (hb.mono (by simp)))
   rcases row_form hrow with ⟨q, _⟩ | ⟨g, cap, hv, hrw, hg⟩
   · exact absurd (by rw [q] at hln; exact List.length_eq_zero_iff.1 hln.symm) HK.out.2.2
   rw [hln] at hv
   subst hv
   have hg1 : W1.heap.size ≤ g := by have := hg; rw [World.size_alloc] at this; omega
   have HR0 := Lh (And.intro hrw hg1)
   clear hperm hrow hnil hb hlen hrw hg hg1 HO hln hlk e0 e1 e2 e3 e5 m0 m1 m3 m4 ss
   have hS3 := HH.out.below _ _ _ _ HS.out HF.out
   have hK3 : Keep O O1 w W3 := HKP.out.trans (Keep.below HF.out)
   have hng : ¬ O1 g := fun q => by have := HH.out.old _ _ _ _ HS.out q; have := HR0.out.2; omega
   have HT := Lh (And.intro hS3 (And.intro hK3 hng))
   clear hS3 hK3 hng HS HKP HF HM e4 m2
   go_wp2_with fail
   go_loopw [30] (fun jj wr => ∃ (i : Nat) (O2 : Nat → Prop), i ≤ d.names.length ∧ jj = .int .i64 (i : Int) ∧ Hid (S (l ++ (bts p, k) :: (d.names.take i).flatMap fun x => seenP m f x.2 (bts p ++ 47 :: x.1)) O2 wr ∧ Keep O O2 w wr ∧ RowAt wr g (strs ((d.names.map (·.1)).map tx)) ∧ ¬ O2 g)) (fun jj _ => d.names.length - (intOf jj).toNat)
   case atStart => exact ⟨0, O1, by omega, rfl, by simpa using HT.out.1, HT.out.2.1, HR0.out.1, HT.out.2.2⟩
   case round =>
    obtain ⟨i, O2, hi, rfl, HW⟩ := hrel
    by_cases hlt : i < d.names.length
    · obtain ⟨x, hx⟩ : ∃ x, d.names[i]? = some x := ⟨_, List.getElem?_eq_getElem hlt⟩
      have hxm := List.mem_of_getElem? hx
      obtain ⟨hc, _⟩ : wr.cell? ⟨g, i, none⟩ = some (.string (tx x.1)) ∧ True := ⟨(HW.out.2.2.1.cell i (by simp [strs]; exact hlt)).trans (strs_names d.names hx), trivial⟩
      have hM := HH.out.md _ _ _ HW.out.1
      obtain ⟨e0, e1, e2, e3, e4, e5⟩ := (hM.nodes _ _ HK.out.1).cells
      rw [if_pos HK.out.2.1] at e4
      clear e0 e1 e2 e3 e5
      have hnm := HI.out.nm _ ((HI.out.mem (e := ⟨k, x.1, x.2⟩)).2 ⟨d, HK.out.1, hxm⟩)
      have hxl : x.1.length ≤ 32 := (nmOk_iff.1 hnm.1).2.1
      have hsz : (tx x.1).size = x.1.length := by simp [tx, ByteArray.size]
      have hlk := (hM.nodes _ _ HK.out.1).look1 HK.out.2.1 (s := tx x.1) (j := x.2) (by omega) (by rw [bts_tx2]; exact lookN_of_mem (HI.out.shape k d HK.out.1).2.1 hxm)
      have h1 : (i : Int) < (d.names.length : Int) := by omega
      have h2 : (0 : Int) ≤ (i : Int) := by omega
      have h3 : (d.names.length : Int) ≤ 1000000 := by have := HG.out.nlen _ _ HK.out.1; omega
      have hm1 : ¬ maxLen < p.size + 1 := by have := HQ.out.1; unfold maxLen; omega
      have hm2 : ¬ maxLen < (p ++ ⟨#[47]⟩).size + (tx x.1).size := by rw [ByteArray.size_append, hsz]; have := HQ.out.1; show ¬ maxLen < p.size + 1 + _; unfold maxLen; omega
      have hm3 : ¬ maxLen < p.size + 1 + (tx x.1).size := by rw [hsz]; have := HQ.out.1; unfold maxLen; omega
      have hm4 : ¬ maxLen < p.size + (⟨#[47]⟩ : ByteArray).size := hm1
      have hm5 : ¬ maxLen < p.size + (⟨#[47]⟩ : ByteArray).size + (tx x.1).size := hm3
      have hpb : bts (p ++ ⟨#[47]⟩ ++ tx x.1) = bts p ++ 47 :: x.1 := by simp [bts, tx]
      have htot : ((d.names.take (i + 1)).flatMap fun x => seenP m f x.2 (bts p ++ 47 :: x.1)).length ≤ (d.names.flatMap fun x => seenP m f x.2 (bts p ++ 47 :: x.1)).length := flat_take_le _ _ _
      have hstep : ((d.names.take (i + 1)).flatMap fun x => seenP m f x.2 (bts p ++ 47 :: x.1)) = ((d.names.take i).flatMap fun x => seenP m f x.2 (bts p ++ 47 :: x.1)) ++ seenP m f x.2 (bts p ++ 47 :: x.1) := by
       rw [take_one hx, List.flatMap_append]
       simp
      have hcall := IH.out x.2 (p ++ ⟨#[47]⟩ ++ tx x.1) (l ++ (bts p, k) :: (d.names.take i).flatMap fun x => seenP m f x.2 (bts p ++ 47 :: x.1)) O2 wr (by
        obtain ⟨_, dx, hdx, _⟩ := HI.out.there _ ((HI.out.mem (e := ⟨k, x.1, x.2⟩)).2 ⟨d, HK.out.1, hxm⟩)
        exact ⟨dx, hdx⟩) (FT.out.child HDP.out HI.out HK.out.1 hxm) HW.out.1 (by
        rw [hpb]
        rw [hstep, List.length_append] at htot
        have := HL.out
        rw [← HQ.out.2] at this
        rw [List.length_append, List.length_cons]
        omega) (by
        rw [ByteArray.size_append, ByteArray.size_append, hsz]
        show p.size + 1 + x.1.length + _ ≤ _
        have := HQ.out.1
        omega)
      rw [hpb] at hcall
      have HCL := Lh hcall
      have HST := Lh hstep
      clear hcall hstep htot hpb hnm hxl hsz hM hxm hlt
      go_wp2_with fail
      refine HCL.out.mono ?_
      rintro e W5 ⟨rfl, O3, hS5, hK5⟩
      have HW5 := Lh (And.intro hS5 (And.intro (HW.out.2.1.trans hK5) (hK5.row HW.out.2.2.1 HW.out.2.2.2)))
      clear hS5 hK5 HCL
      go_wp2_with fail
      go_roundw
      case rel =>
       refine ⟨i + 1, O3, by omega, by go_num, ?_, HW5.out.2.1, HW5.out.2.2.1, HW5.out.2.2.2⟩
       have := HW5.out.1
       rw [HST.out, ← List.cons_append, ← List.append_assoc]
       exact this
      case measure => simp [intOf]; omega
    · have h1 : ¬ (i : Int) < (d.names.length : Int) := by omega
      have hie : i = d.names.length := by omega
      clear hlt
      go_wp2_with fail
      go_end0
      subst hie
      refine ⟨rfl, O2, ?_, HW.out.2.1⟩
      have := HW.out.1
      rw [List.take_length] at this
      rw [seenP, Md.get_look HK.out.1]
      rw [← HQ.out.2]
      exact this
theorem mseen (hH : Hand R m fn caps S B) (hI : Inv N Nul m) (hN : N ≤ 900000) (hdep : ∀ k d, lookK m.nodes k = some d → d.kind = 2 → k ≠ 0 → dep d.par < dep k) : ∀ (f k : Nat) (p : ByteArray) (l : List (Bs × Nat)) (O : Nat → Prop) (w : World), There m k → Fit m dep f k → S l O w → l.length + (seenP m f k (bts p)).length ≤ B → p.size + 40 * (f + 1) ≤ 1000000 →
   Calls Tryz.prog 58 #[.pointer (some ⟨R.mb, 0, none⟩), .int .i64 (k : Int), .string p, .func (Fn.func fn) #[] caps] w fun e w' => e = .returned (.tuple #[]) ∧ ∃ O', S (l ++ seenP m f k (bts p)) O' w' ∧ Keep O O' w w' := by
 intro f
 induction f with
 | zero =>
  rintro k p l O w ⟨d, hk⟩ hF hS hl hp
  have hn : d.names = [] := by
   rcases (hI.shape k d hk).1 with ⟨_, q⟩ | ⟨q, _⟩
   · exact q
   · have := hF d hk q
     omega
  exact mseen_file hH (hI.good hN) 0 k p l O w d hk hn hS hl (by omega)
 | succ f ih =>
  rintro k p l O w ⟨d, hk⟩ hF hS hl hp
  by_cases hn : d.names = []
  · exact mseen_file hH (hI.good hN) (f + 1) k p l O w d hk hn hS hl (by omega)
  · have h2 : d.kind = 2 := by
     rcases (hI.shape k d hk).1 with ⟨_, q⟩ | ⟨q, _⟩
     · exact absurd q hn
     · exact q
    exact mseen_dir hH hI hN hdep f ih k p l O w d hk h2 hn hF hS hl (by omega)
theorem mseen_all (hH : Hand R m fn caps S B) (hI : Inv N Nul m) (hN : N ≤ 20000) (hB : N + 1 ≤ B) (O : Nat → Prop) (w : World) (hS : S [] O w) :
  Calls Tryz.prog 58 #[.pointer (some ⟨R.mb, 0, none⟩), .int .i64 0, .string ⟨#[47]⟩, .func (Fn.func fn) #[] caps] w fun e w' => e = .returned (.tuple #[]) ∧ ∃ O', S (allP m) O' w' ∧ Keep O O' w w' := by
 obtain ⟨dep, hdep⟩ := hI.tree
 obtain ⟨d, h1, _⟩ := hI.root
 have hlen := rise_len hI.rise hI.lt
 have hnx := hI.next
 have hal := all_len hI
 exact mseen hH hI (by omega) hdep m.nodes.length 0 ⟨#[47]⟩ [] O w ⟨d, h1⟩ (Fit.root hI dep) hS (by show 0 + (allP m).length ≤ B; omega) (by show 1 + _ ≤ _; omega)
end
end Go.Proofs.YtppdihpobokfnaaGreatDoor
