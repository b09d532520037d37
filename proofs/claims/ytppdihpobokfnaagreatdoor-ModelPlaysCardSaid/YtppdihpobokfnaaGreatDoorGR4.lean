/- A part of a proof. -/
import Derived.Test.YtppdihpobokfnaaGreatDoorGR3
import Derived.Test.YtppdihpobokfnaaGreatDoorGI
set_option linter.unusedVariables false
set_option linter.unusedSimpArgs false
set_option maxRecDepth 100000
namespace Go.Proofs.YtppdihpobokfnaaGreatDoor
open Go.RowKit Go.Joins
theorem own_new1 {W : World} {g base : Nat} {t : TypeId} {v : Value} (h : W.heap[g]? = some (.cells #[v] t (0, 0))) (hb : base ≤ g) : W.ownsRow base t 1 (.slice (some ⟨g, 0, none⟩) 1 1) 1 [v] :=
 ⟨rfl, .inr ⟨g, 1, #[v], rfl, hb, h, Nat.le_refl _, by unfold maxLen; omega, rfl, rfl⟩⟩
theorem own_below {W W' : World} {base : Nat} {t : TypeId} {sz n : Nat} {v : Value} {xs : List Value} (h : W.ownsRow base t sz v n xs) (hb : Below W.heap.size W W') : W'.ownsRow base t sz v n xs :=
 own_same h fun k hk => hb.block k (h.lt k hk).2
theorem own_grown {W W' : World} {base : Nat} {t : TypeId} {sz n : Nat} {v : Value} {xs : List Value} {row : Option Nat} (h : W.ownsRow base t sz v n xs) (hg : W.grownBy W' row) (hr : ∀ k, v.ownBlock = some k → row ≠ some k) : W'.ownsRow base t sz v n xs :=
 own_same h fun k hk => hg.block k (h.lt k hk).2 (fun e => hr k hk e.symm)
theorem new_row {W : World} {base n cap : Nat} {t : TypeId} {a : Option Addr} {xs : List Value} (h : W.ownsRow base t 1 (.slice a n cap) n xs) (hn : 0 < n) : ∃ g, a = some ⟨g, 0, none⟩ ∧ base ≤ g ∧ RowAt W g xs := by
 obtain ⟨a', c', e, h5, h6⟩ := own_news h
 injection e with e _ _
 subst e
 rcases h5 with h5 | ⟨g, e, h7, h8⟩
 · rw [h5] at h6; simp at h6; omega
 · exact ⟨g, e, h7, h8⟩
theorem flat_take_leX {α β : Type} (l : List α) (G : α → List β) (i : Nat) : ((l.take i).flatMap G).length ≤ (l.flatMap G).length := by
 have h : l.flatMap G = (l.take i).flatMap G ++ (l.drop i).flatMap G := by rw [← List.flatMap_append, List.take_append_drop]
 rw [h, List.length_append]
 omega
def seR (r : RM) (f k : Nat) (q x : Bs) : List (Bs × Nat) := seenR r f (match r.ent k x with | some e => e.node | none => 0) (q ++ 47 :: x)
theorem seenR_dir {r : RM} {f k : Nat} {p q : Bs} (h2 : r.kind k = 2) (hq : q = if p = [47] then [] else p) : seenR r (f + 1) k p = (p, k) :: (namesR r k).flatMap (seR r f k q) := by
 rw [seenR, if_neg (fun c => c h2), hq]; rfl
theorem seenR_file {r : RM} {f k : Nat} {p : Bs} (h2 : r.kind k ≠ 2) : seenR r f k p = [(p, k)] := by
 cases f with
 | zero => rfl
 | succ f => rw [seenR, if_pos h2]
theorem seenR_ne (r : RM) (f k : Nat) (p : Bs) : 0 < (seenR r f k p).length := by
 cases f with
 | zero => simp [seenR]
 | succ f => rw [seenR]; split <;> simp
def paC (L : List (Bs × Nat)) : List Value := nmC (L.map (·.1))
def niC (L : List (Bs × Nat)) : List Value := idC (L.map (·.2))
theorem paC_len (L : List (Bs × Nat)) : (paC L).length = L.length := by simp [paC, nmC_len]
theorem niC_len (L : List (Bs × Nat)) : (niC L).length = L.length := by simp [niC, idC_len]
theorem paC_app (L M : List (Bs × Nat)) : paC (L ++ M) = paC L ++ paC M := by simp [paC, nmC, strs]
theorem niC_app (L M : List (Bs × Nat)) : niC (L ++ M) = niC L ++ niC M := by simp [niC, idC]
def SeenRP (L : List (Bs × Nat)) (w : World) (e : Ending) (w' : World) : Prop := ∃ a1 c1 a2 c2, e = .returned (.tuple #[.slice a1 L.length c1, .slice a2 L.length c2]) ∧ w'.ownsRow w.heap.size 9 1 (.slice a1 L.length c1) L.length (paC L) ∧ w'.ownsRow w.heap.size 3 1 (.slice a2 L.length c2) L.length (niC L) ∧ Below w.heap.size w w'
structure SeB (w wr : World) (r : RM) (Q : Rr) (f k : Nat) (p q : ByteArray) (ns : List Bs) (g i : Nat) (L : List (Bs × Nat)) (a1 : Option Addr) (c1 : Nat) (a2 : Option Addr) (c2 : Nat) : Prop where
 list : L = (bts p, k) :: (ns.take i).flatMap (seR r f k (bts q))
 pa : wr.ownsRow w.heap.size 9 1 (.slice a1 L.length c1) L.length (paC L)
 ni : wr.ownsRow w.heap.size 3 1 (.slice a2 L.length c2) L.length (niC L)
 below : Below w.heap.size w wr
 far : ns ≠ [] → RowAt wr g (nmC ns) ∧ (∀ j, (Value.slice a1 L.length c1).ownBlock = some j → j ≠ g) ∧ ∀ j, (Value.slice a2 L.length c2).ownBlock = some j → j ≠ g
section
variable {N : Nat} {m : Md} {dep : Nat → Nat}
set_option maxHeartbeats 8000000 in
theorem r22seen_file (Q : Rr) (r : RM) (f k : Nat) (p : ByteArray) (x : RN) (w : World) (h : DocAt w Q r) (hn : r.nodes.length ≤ 1000000) (hx : r.nd k = some x) (h2 : r.kind k ≠ 2) :
  Calls Tryz.prog 75 #[.pointer (some ⟨Q.b, 0, none⟩), .int .i64 (k : Int), .string p] w (SeenRP (seenR r f k (bts p)) w) := by
 rw [seenR_file h2]
 have HD := Lh h
 have HK := Lh (fun W (hW : DocAt W Q r) => r22kind Q r k x W hW hn hx)
 have q2 : (r.kind k != 2) = true := by simp [h2]
 have q3 : (r.kind k == 2) = false := by simp [h2]
 have hpb : tx (bts p) = p := bts_ext (by rw [tx_bts])
 have o1 := own_new1 (base := w.heap.size) (heap_alloc_new (w.alloc (.cells #[.string p] 9)) (.cells #[.int .i64 (k : Int)] 3)) (by simp)
 have o0 := own_new1 (base := w.heap.size) (W := (w.alloc (.cells #[.string p] 9)).alloc (.cells #[.int .i64 (k : Int)] 3)) ((Below.heap_alloc _ _ _ (by simp)).trans (heap_alloc_new w (.cells #[.string p] 9))) (Nat.le_refl _)
 have HO := Lh (And.intro o0 (And.intro o1 (((Below.refl w.heap.size w).alloc (Nat.le_refl _) (.cells #[.string p] 9)).alloc (by simp) (.cells #[.int .i64 (k : Int)] 3))))
 have HD2 := Lh ((h.alloc (.cells #[.string p] 9)).alloc (.cells #[.int .i64 (k : Int)] 3))
 clear h hn hx h2 o0 o1
 go_enter Tryz.func75, Tryz.ntmps75
 go_upto_region 2 with fail
 generalize (w.alloc (.cells #[.string p] 9)).alloc (.cells #[.int .i64 (k : Int)] 3) = W1 at *
 go_wp2_with fail
 refine (HK.out _ HD2.out).mono ?_
 rintro e W2 ⟨rfl, m1, rfl⟩
 go_wp2_with fail
 go_ret2
 refine ⟨_, 1, _, 1, rfl, ?_, ?_, below_drewN HO.out.2.2 m1⟩
 · have := own_same HO.out.1 (W' := W1.drewN m1) (fun _ _ => rfl)
   simpa [paC, nmC, strs, hpb] using this
 · have := own_same HO.out.2.1 (W' := W1.drewN m1) (fun _ _ => rfl)
   simpa [niC, idC] using this
set_option maxHeartbeats 16000000 in
theorem r22seen_dir (Q : Rr) (r : RM) (hI : Inv N Nul m) (hN : N ≤ 900000) (hS : Sim m r) (hdep : ∀ k d, lookK m.nodes k = some d → d.kind = 2 → k ≠ 0 → dep d.par < dep k) (f : Nat)
  (ih : ∀ (k : Nat) (p : ByteArray) (w : World), There m k → Fit m dep f k → DocAt w Q r → (seenR r f k (bts p)).length ≤ 1000000 → p.size + 40 * (f + 1) ≤ 1000000 →
    Calls Tryz.prog 75 #[.pointer (some ⟨Q.b, 0, none⟩), .int .i64 (k : Int), .string p] w (SeenRP (seenR r f k (bts p)) w))
  (k : Nat) (p : ByteArray) (d : Nd) (w : World) (hk : lookK m.nodes k = some d) (h2 : d.kind = 2) (hF : Fit m dep (f + 1) k) (h : DocAt w Q r) (hl : (seenR r (f + 1) k (bts p)).length ≤ 1000000) (hp : p.size + 40 * (f + 2) ≤ 1000000) :
  Calls Tryz.prog 75 #[.pointer (some ⟨Q.b, 0, none⟩), .int .i64 (k : Int), .string p] w (SeenRP (seenR r (f + 1) k (bts p)) w) := by
 have hk2 : r.kind k = 2 := (hS.kind_look hk).trans h2
 have hRF := hS.full hI hN
 obtain ⟨q, hq⟩ : ∃ q : ByteArray, q = if bts p = [47] then ⟨#[]⟩ else p := ⟨_, rfl⟩
 have hqs : q.size ≤ p.size := by rw [hq]; split; exact Nat.zero_le _; exact Nat.le_refl _
 have hqb : bts q = if bts p = [47] then [] else bts p := by rw [hq]; split <;> rfl
 rw [seenR_dir hk2 hqb] at hl ⊢
 have HQ := Lh (And.intro hq (And.intro hqs hqb))
 have HI := Lh (And.intro hI (And.intro hS hdep))
 have HK := Lh (And.intro hk (And.intro h2 hF))
 have HRF := Lh hRF
 have IH := Lh ih
 have HNS := Lh (hS.names hI hk)
 have HL := Lh (And.intro hl hp)
 have HD := Lh h
 obtain ⟨x0, hx0⟩ : ∃ x, r.nd k = some x := ⟨_, by rw [hS.nd, hk]; rfl⟩
 have HKC := Lh (fun W (hW : DocAt W Q r) => r22kind Q r k x0 W hW hRF.nodes hx0)
 have HNM := Lh (fun W (hW : DocAt W Q r) => r22names Q r k W hW hRF.ents)
 obtain ⟨iS, hi, hz0, hz1, hz2⟩ := info_parts info_str
 have HIS := Lh (And.intro hi (And.intro hz0 (And.intro hz1 hz2)))
 clear hi hz0 hz1 hz2
 obtain ⟨iI, hi, hz0, hz1, hz2⟩ := info_parts info_int17
 have HII := Lh (And.intro hi (And.intro hz0 (And.intro hz1 hz2)))
 have q2 : (r.kind k != 2) = false := by simp [hk2]
 have q3 : (r.kind k == 2) = true := by simp [hk2]
 have hpb : tx (bts p) = p := bts_ext (by rw [tx_bts])
 obtain ⟨ae, ce, hve⟩ := own_form5 h.ents
 have HV3 := Lh hve
 have o1 := own_new1 (base := w.heap.size) (heap_alloc_new (w.alloc (.cells #[.string p] 9)) (.cells #[.int .i64 (k : Int)] 3)) (by simp)
 have o0 := own_new1 (base := w.heap.size) (W := (w.alloc (.cells #[.string p] 9)).alloc (.cells #[.int .i64 (k : Int)] 3)) ((Below.heap_alloc _ _ _ (by simp)).trans (heap_alloc_new w (.cells #[.string p] 9))) (Nat.le_refl _)
 have HO := Lh (And.intro (show World.ownsRow _ w.heap.size 9 1 (.slice (some ⟨w.heap.size, 0, none⟩) 1 1) 1 (paC [(bts p, k)]) from by simpa [paC, nmC, strs, hpb] using o0) (And.intro (show World.ownsRow _ w.heap.size 3 1 _ 1 (niC [(bts p, k)]) from o1) (((Below.refl w.heap.size w).alloc (Nat.le_refl _) (.cells #[.string p] 9)).alloc (by simp) (.cells #[.int .i64 (k : Int)] 3))))
 have HD2 := Lh ((h.alloc (.cells #[.string p] 9)).alloc (.cells #[.int .i64 (k : Int)] 3))
 have HSZ := Lh (show w.heap.size + 1 < ((w.alloc (.cells #[.string p] 9)).alloc (.cells #[.int .i64 (k : Int)] 3)).heap.size from by simp)
 rw [World.size_alloc] at HO
 clear hi hz0 hz1 hz2 h hI hN hS hdep hF ih hk h2 hl hp hRF hx0 hve hpb hq hqs hqb o0 o1
 clear hk2
 go_enter Tryz.func75, Tryz.ntmps75
 go_upto_region 2 with fail
 generalize (w.alloc (.cells #[.string p] 9)).alloc (.cells #[.int .i64 (k : Int)] 3) = W1 at *
 go_wp2_with fail
 refine (HKC.out _ HD2.out).mono ?_
 rintro e W2 ⟨rfl, m1, rfl⟩
 have HO2 := Lh (show (W1.drewN m1).ownsRow w.heap.size 9 1 (.slice (some ⟨w.heap.size, 0, none⟩) 1 1) 1 (paC [(bts p, k)]) ∧ (W1.drewN m1).ownsRow w.heap.size 3 1 (.slice (some ⟨w.heap.size + 1, 0, none⟩) 1 1) 1 (niC [(bts p, k)]) ∧ Below w.heap.size w (W1.drewN m1) ∧ DocAt (W1.drewN m1) Q r ∧ w.heap.size + 1 < (W1.drewN m1).heap.size from ⟨own_same HO.out.1 (fun _ _ => rfl), own_same HO.out.2.1 (fun _ _ => rfl), below_drewN HO.out.2.2 m1, HD2.out.drewN m1, HSZ.out⟩)
 clear HO HD2 HKC HSZ
 generalize World.drewN _ m1 = W2 at *
 go_upto_if 25 with fail
 go_cut [2] (fun pp wx => pp = .string q ∧ wx = W2)
 case first =>
  by_cases c : bts p = [47]
  · obtain ⟨c1, c2⟩ := txt_yes c
    have e := HQ.out.1
    rw [if_pos c] at e
    have HE := Lh e
    rw [c2]
    clear c e c1 c2
    go_wp2_with fail
    go_meet
    case rel => exact ⟨by rw [HE.out], rfl⟩
  · obtain ⟨c1, c2⟩ := txt_no c
    have e := HQ.out.1
    rw [if_neg c] at e
    have HE := Lh e
    rw [c2]
    clear c e c1 c2
    go_wp2_with fail
    go_meet
    case rel => exact ⟨by rw [HE.out], rfl⟩
 case rest =>
  obtain ⟨rfl, hwc⟩ := hcut
  clear q2 q3
  generalize wc = W3 at *
  subst hwc
  go_wp2_with fail
  refine (HNM.out _ HO2.out.2.2.2.1).mono ?_
  rintro e W4 ⟨an, cn, rfl, hon, hb⟩
  obtain ⟨g, hg⟩ : ∃ g, namesR r k ≠ [] → an = some ⟨g, 0, none⟩ ∧ RowAt W4 g (nmC (namesR r k)) ∧ w.heap.size + 1 < g := by
   obtain ⟨a', c', e, h5, _⟩ := own_news hon
   injection e with e _ _
   subst e
   rcases h5 with h5 | ⟨g, e, h6, h7⟩
   · exact ⟨0, fun hne => absurd (by have := nmC_len (namesR r k); rw [h5] at this; exact List.length_eq_zero_iff.1 this.symm) hne⟩
   · exact ⟨g, fun _ => ⟨e, h7, by have := HO2.out.2.2.2.2; omega⟩⟩
  have HN4 := Lh hg
  clear hg
  have HO4 := Lh (And.intro (own_below HO2.out.1 hb) (And.intro (own_below HO2.out.2.1 hb) (HO2.out.2.2.1.trans (hb.mono HO2.out.2.2.1.size))))
  clear hon hb HNM HO2
  have HNL := Lh (show (namesR r k).length ≤ 1000000 from by rw [← namesTo_all]; have := namesTo_len r k r.ents.length; have := HRF.out.ents; omega)
  generalize hns : namesR r k = ns at *
  have hn9 : (ns.length : Int) ≤ 1000000 := by have := HNL.out; omega
  go_wp2_with fail
  go_loopw [8, 9, 11, 12, 13] (fun pp ii jj _ _ wr => ∃ (i : Nat) (a1 : Option Addr) (c1 : Nat) (a2 : Option Addr) (c2 : Nat) (L : List (Bs × Nat)), i ≤ ns.length ∧ jj = .int .i64 (i : Int) ∧ pp = .slice a1 L.length c1 ∧ ii = .slice a2 L.length c2 ∧ Hid (SeB w wr r Q f k p q ns g i L a1 c1 a2 c2)) (fun _ _ jj _ _ _ => ns.length - (intOf jj).toNat)
  case atStart => exact ⟨0, _, 1, _, 1, [(bts p, k)], by omega, rfl, rfl, rfl, Lh ⟨rfl, HO4.out.1, HO4.out.2.1, HO4.out.2.2, fun hne => ⟨(HN4.out hne).2.1, fun j hj => by cases hj; have := (HN4.out hne).2.2; show w.heap.size ≠ g; omega, fun j hj => by cases hj; have := (HN4.out hne).2.2; show w.heap.size + 1 ≠ g; omega⟩⟩⟩
  case round =>
   obtain ⟨i, a1, c1, a2, c2, L, hi, rfl, rfl, rfl, HW⟩ := hrel
   by_cases hlt : i < ns.length
   · have hne : ns ≠ [] := fun e => by rw [e] at hlt; simp at hlt
     obtain ⟨s, hs⟩ : ∃ s, ns[i]? = some s := ⟨_, List.getElem?_eq_getElem hlt⟩
     obtain ⟨rfl, _, hg1⟩ := HN4.out hne
     obtain ⟨hrow, ap1, ap2⟩ := HW.out.far hne
     have HR0 := Lh (And.intro hrow (And.intro ap1 ap2))
     have cn2 : wr.cell? ⟨g, i, none⟩ = some (.string (tx s)) := by rw [hrow.cell i (by rw [nmC_len]; exact hlt)]; exact nmC_at hs
     have hgl := hrow.lt
     have HDW := Lh (HD.out.below HW.out.below)
     obtain ⟨_, _, _, e3, _⟩ := HDW.out.cells
     rw [HV3.out] at e3
     have hbl := HDW.out.row.lt
     obtain ⟨y, hym, hys⟩ : ∃ y ∈ d.names, y.1 = s := by
      have h5 := List.mem_of_getElem? hs
      rw [HNS.out] at h5
      obtain ⟨y, h6, h7⟩ := List.mem_map.1 h5
      exact ⟨y, h6, h7⟩
     have hent : r.ent k (bts (tx s)) = some ⟨k, s, y.2⟩ := by
      rw [tx_bts, HI.out.2.1.ent HI.out.1, Md.get_look HK.out.1, ← hys, lookN_of_mem (HI.out.1.shape k d HK.out.1).2.1 hym]; rfl
     obtain ⟨je, hje, hjx⟩ := ent_at hent
     rw [tx_bts] at hent
     have HEN := Lh (fun W (hW : DocAt W Q r) => hje ▸ r22entry Q r (k : Int) (tx s) W hW HRF.out.ents)
     obtain ⟨ge, ce2, qe, hge, _, _, f2⟩ := HDW.out.ent hjx
     rw [HV3.out] at qe
     injection qe with qe _ _
     subst qe
     have j1 : (je : Int) < (r.ents.length : Int) := by have := (List.getElem?_eq_some_iff.1 hjx).1; omega
     have j0 : (0 : Int) ≤ (je : Int) := by omega
     have i1 : (i : Int) < (ns.length : Int) := by omega
     have i0 : (0 : Int) ≤ (i : Int) := by omega
     have hsl : s.length ≤ 32 := by
      have hnm := HI.out.1.nm _ ((HI.out.1.mem (e := ⟨k, y.1, y.2⟩)).2 ⟨d, HK.out.1, hym⟩)
      have := (nmOk_iff.1 hnm.1).2.1
      rw [← hys]; exact this
     have hss : (tx s).size = s.length := tx_size s
     have hqm : q.size ≤ 1000000 := by have := HQ.out.2.1; have := HL.out.2; omega
     have A1 : ∀ w, (Go.Op.stringOp .add q ⟨#[47]⟩).run Tryz.prog w = .ok (.string (q ++ ⟨#[47]⟩)) w := fun w => run_string_add_sum w _ _ (by show q.size + 1 ≤ _; omega)
     have A2 : ∀ w, (Go.Op.stringOp .add (q ++ ⟨#[47]⟩) (tx s)).run Tryz.prog w = .ok (.string (q ++ ⟨#[47]⟩ ++ tx s)) w := fun w => run_string_add_sum w _ _ (by rw [ByteArray.size_append]; show q.size + 1 + _ ≤ _; omega)
     have B1 : ¬ maxLen < q.size + (⟨#[47]⟩ : ByteArray).size := by show ¬ maxLen < q.size + 1; unfold maxLen; omega
     have B2 : ¬ maxLen < (q ++ ⟨#[47]⟩).size + (tx s).size := by rw [ByteArray.size_append]; show ¬ maxLen < q.size + 1 + _; unfold maxLen; omega
     have hpb : bts (q ++ ⟨#[47]⟩ ++ tx s) = bts q ++ 47 :: s := by simp [bts, tx]
     have hse : seR r f k (bts q) s = seenR r f y.2 (bts (q ++ ⟨#[47]⟩ ++ tx s)) := by unfold seR; rw [hent, hpb]
     have HST := Lh (show (bts p, k) :: (ns.take (i + 1)).flatMap (seR r f k (bts q)) = L ++ seR r f k (bts q) s from by rw [HW.out.list, List.take_add_one, hs]; simp [List.flatMap_append])
     have HTOT : Hid ((L ++ seR r f k (bts q) s).length ≤ 1000000) := by
      show _ ≤ _
      rw [← HST.out]
      have h5 := flat_take_leX ns (seR r f k (bts q)) (i + 1)
      have := HL.out.1
      simp at this ⊢; simp at h5; omega
     obtain ⟨M, hM⟩ : ∃ M, M = seR r f k (bts q) s := ⟨_, rfl⟩
     have HM0 : Hid (0 < M.length) := by show _ < _; rw [hM, hse]; exact seenR_ne ..
     rw [← hM] at HST HTOT hse
     have HCL := Lh (fun W (hW : DocAt W Q r) => IH.out y.2 (q ++ ⟨#[47]⟩ ++ tx s) W (by
       obtain ⟨_, dx, hdx, _⟩ := HI.out.1.there _ ((HI.out.1.mem (e := ⟨k, y.1, y.2⟩)).2 ⟨d, HK.out.1, hym⟩)
       exact ⟨dx, hdx⟩) (HK.out.2.2.child HI.out.2.2 HI.out.1 HK.out.1 hym) hW (by rw [← hse]; have := HTOT.out; rw [List.length_append] at this; omega) (by
       rw [ByteArray.size_append, ByteArray.size_append, hss]
       show q.size + 1 + s.length + _ ≤ _
       have := HQ.out.2.1; have := HL.out.2; omega))
     rw [← hse] at HCL
     have hii : i + 1 ≤ ns.length := hlt
     clear hs hrow ap1 ap2 hym hys hje hjx hent hsl hss hqm hpb hse hM hne hlt
     have HKE := Lh (fun V (hb : Below wr.heap.size wr V) => show V.cell? ⟨Q.b, 3, none⟩ = some (.slice (some ⟨ge, 0, none⟩) r.ents.length ce) ∧ V.cell? ⟨g, i, none⟩ = some (.string (tx s)) ∧ V.cell? ⟨ge, je * 3 + 2, none⟩ = some (.int .i64 (y.2 : Int)) from ⟨by rw [hb.cell (p := ⟨Q.b, 3, none⟩) hbl]; exact e3, by rw [hb.cell (p := ⟨g, i, none⟩) hgl]; exact cn2, by rw [hb.cell (p := ⟨ge, je * 3 + 2, none⟩) hge]; exact f2⟩)
     go_upto_region 10 with fail
     go_region_held3 (fun V => V.cell? ⟨Q.b, 3, none⟩ = some (.slice (some ⟨ge, 0, none⟩) r.ents.length ce) ∧ V.cell? ⟨g, i, none⟩ = some (.string (tx s)) ∧ V.cell? ⟨ge, je * 3 + 2, none⟩ = some (.int .i64 (y.2 : Int))) (first | exact HKE.out _ (Below.refl _ _).drew | exact HKE.out _ HB5.out)
      (first
        | (go_at_call 116; refine (HEN.out _ HDW.out.drew).mono ?_; rintro e w2 ⟨rfl, rfl⟩)
        | (go_at_call 75; refine (HCL.out _ HDW.out.drew).mono ?_; rintro e W5 ⟨a3, c3, a4, c4, rfl, hp5, hi5, hb5⟩; have HB5 := Lh ((Below.refl wr.heap.size wr).drew.trans hb5)))
     clear cn2 e3 f2 hbl hgl hge j1 j0 i1 A1 A2 B1 B2 HKE HB5
     obtain ⟨g3, rfl, hg3, r3⟩ := new_row hp5 HM0.out
     obtain ⟨g4, rfl, hg4, r4⟩ := new_row hi5 HM0.out
     have P5 := own_below (show wr.drew.ownsRow w.heap.size 9 1 (.slice a1 L.length c1) L.length (paC L) from own_same HW.out.pa (fun _ _ => rfl)) hb5
     have N5 := own_below (show wr.drew.ownsRow w.heap.size 3 1 (.slice a2 L.length c2) L.length (niC L) from own_same HW.out.ni (fun _ _ => rfl)) hb5
     have B5 := HW.out.below.drew.trans (hb5.mono HW.out.below.size)
     have R5 := (show RowAt wr.drew g (nmC ns) from HR0.out.1).below hb5 HR0.out.1.lt
     have HP5 := Lh (And.intro P5 (And.intro N5 (And.intro B5 (And.intro R5 (And.intro r3 r4)))))
     have HLT := Lh (show (∀ j, (Value.slice a1 L.length c1).ownBlock = some j → j < wr.heap.size) ∧ (∀ j, (Value.slice a2 L.length c2).ownBlock = some j → j < wr.heap.size) ∧ wr.heap.size ≤ g3 ∧ wr.heap.size ≤ g4 ∧ g < wr.heap.size ∧ wr.heap.size ≤ W5.heap.size from ⟨fun j hj => (HW.out.pa.lt j hj).2, fun j hj => (HW.out.ni.lt j hj).2, hg3, hg4, HR0.out.1.lt, hb5.size⟩)
     have HLE := Lh HW.out.list
     have HAP := Lh HR0.out.2
     clear HCL HW HDW hp5 hi5 hb5 HR0 hg3 hg4 r3 r4 P5 N5 B5 R5 HEN
     generalize wr.heap.size = S5 at *
     go_wp2_with (at_builtin; refine wpList_append_own_at _ rfl _ _ 28 rfl w.heap.size 9 iS (.string ⟨#[]⟩) 1 16 Tryz.underlying28 HIS.out.1 HIS.out.2.1 HIS.out.2.2.1 HIS.out.2.2.2 rfl (by decide) _ L.length _ rfl HP5.out.1 ⟨g3, 0, none⟩ M.length c3 (paC M) rfl (by rw [paC_len]; omega) (row_newsX HP5.out.2.2.2.2.1) ?d1 ?d2 ?d3 ?d4 ?_)
     case d1 => intro u hu; simp only [paC, niC] at hu; first | exact nmC_one u hu | exact idC_one u hu
     case d2 => have := HTOT.out; rw [List.length_append] at this; unfold maxLen; omega
     case d3 => have := HTOT.out; rw [List.length_append] at this; omega
     case d4 => exact HP5.out.2.2.1.size
     intro v6 w6 own6 hg6 _ at6
     obtain ⟨a6, c6, rfl⟩ := own_formX own6
     have H6 := Lh (show w6.ownsRow w.heap.size 9 1 (.slice a6 (L.length + M.length) c6) (L.length + M.length) (paC L ++ paC M) ∧ w6.ownsRow w.heap.size 3 1 (.slice a2 L.length c2) L.length (niC L) ∧ Below w.heap.size w w6 ∧ RowAt w6 g (nmC ns) ∧ RowAt w6 g4 (niC M) ∧ (∀ j, (Value.slice a6 (L.length + M.length) c6).ownBlock = some j → j ≠ g) ∧ g < w6.heap.size from
      ⟨own6, own_grown HP5.out.2.1 hg6 (fun j hj e => own_apart HP5.out.1 HP5.out.2.1 (by decide) e hj), HP5.out.2.2.1.grown hg6 HP5.out.2.2.1.size (fun j hj => (HP5.out.1.lt j hj).1), HP5.out.2.2.2.1.grown hg6 (fun e => HAP.out.1 _ e rfl), HP5.out.2.2.2.2.2.grown hg6 (fun e => by have h1 := HLT.out.1 _ e; have h2 := HLT.out.2.2.2.1; omega), fun j hj => by
       rcases at6 with q | q
       · exact HAP.out.1 j (q ▸ hj)
       · rw [q] at hj; cases hj; have h1 := HLT.out.2.2.2.2; omega, by have h1 := HLT.out.2.2.2.2; have h2 := hg6.size; omega⟩)
     clear own6 hg6 at6 HP5
     go_wp2_with (at_builtin; refine wpList_append_own_at _ rfl _ _ 31 rfl w.heap.size 3 iI (.int .i64 0) 1 8 Tryz.underlying31 HII.out.1 HII.out.2.1 HII.out.2.2.1 HII.out.2.2.2 rfl (by decide) _ L.length _ rfl H6.out.2.1 ⟨g4, 0, none⟩ M.length c4 (niC M) rfl (by rw [niC_len]; omega) (row_newsX H6.out.2.2.2.2.1) ?e1 ?e2 ?e3 ?e4 ?_)
     case e1 => intro u hu; simp only [paC, niC] at hu; first | exact nmC_one u hu | exact idC_one u hu
     case e2 => have := HTOT.out; rw [List.length_append] at this; unfold maxLen; omega
     case e3 => have := HTOT.out; rw [List.length_append] at this; omega
     case e4 => exact H6.out.2.2.1.size
     intro v7 w7 own7 hg7 _ at7
     obtain ⟨a7, c7, rfl⟩ := own_formX own7
     have H7 := Lh (show w7.ownsRow w.heap.size 9 1 (.slice a6 (L.length + M.length) c6) (L.length + M.length) (paC L ++ paC M) ∧ w7.ownsRow w.heap.size 3 1 (.slice a7 (L.length + M.length) c7) (L.length + M.length) (niC L ++ niC M) ∧ Below w.heap.size w w7 ∧ RowAt w7 g (nmC ns) ∧ (∀ j, (Value.slice a7 (L.length + M.length) c7).ownBlock = some j → j ≠ g) from
      ⟨own_grown H6.out.1 hg7 (fun j hj e => own_apart H6.out.1 H6.out.2.1 (by decide) hj e), own7, H6.out.2.2.1.grown hg7 H6.out.2.2.1.size (fun j hj => (H6.out.2.1.lt j hj).1), H6.out.2.2.2.1.grown hg7 (fun e => HAP.out.2 _ e rfl), fun j hj => by
       rcases at7 with q | q
       · exact HAP.out.2 j (q ▸ hj)
       · rw [q] at hj; cases hj; have h1 := H6.out.2.2.2.2.2.2; omega⟩)
     clear own7 hg7 at7
     go_wp2_with fail
     go_roundw
     case rel =>
      refine ⟨i + 1, a6, c6, a7, c7, L ++ M, hii, by go_num, by rw [List.length_append], by rw [List.length_append], Lh ⟨HST.out.symm, ?_, ?_, H7.out.2.2.1, fun _ => ⟨H7.out.2.2.2.1, ?_, ?_⟩⟩⟩
      · rw [List.length_append, paC_app]; exact H7.out.1
      · rw [List.length_append, niC_app]; exact H7.out.2.1
      · rw [List.length_append]; exact H6.out.2.2.2.2.2.1
      · rw [List.length_append]; exact H7.out.2.2.2.2
     case measure => simp [intOf]; omega
   · obtain rfl : i = ns.length := by omega
     have hnl : ¬ ((ns.length : Int) < (ns.length : Int)) := by omega
     have HLL := Lh (show L = (bts p, k) :: ns.flatMap (seR r f k (bts q)) from by rw [HW.out.list, List.take_length])
     go_wp2_with fail
     go_ret2
     rw [← HLL.out]
     exact ⟨a1, c1, a2, c2, rfl, HW.out.pa, HW.out.ni, HW.out.below⟩
theorem r22seen (Q : Rr) (r : RM) (hI : Inv N Nul m) (hN : N ≤ 900000) (hS : Sim m r) (hdep : ∀ k d, lookK m.nodes k = some d → d.kind = 2 → k ≠ 0 → dep d.par < dep k) : ∀ (f k : Nat) (p : ByteArray) (w : World), There m k → Fit m dep f k → DocAt w Q r → (seenR r f k (bts p)).length ≤ 1000000 → p.size + 40 * (f + 1) ≤ 1000000 →
  Calls Tryz.prog 75 #[.pointer (some ⟨Q.b, 0, none⟩), .int .i64 (k : Int), .string p] w (SeenRP (seenR r f k (bts p)) w) := by
 intro f
 induction f with
 | zero =>
  rintro k p w ⟨d, hk⟩ hF h hl hp
  have h2 : d.kind ≠ 2 := fun q => by have := hF d hk q; omega
  exact r22seen_file Q r 0 k p (rnOf (k, d)) w h (hS.full hI hN).nodes (by rw [hS.nd, hk]; rfl) (by rw [hS.kind_look hk]; exact h2)
 | succ f ih =>
  rintro k p w ⟨d, hk⟩ hF h hl hp
  by_cases h2 : d.kind = 2
  · exact r22seen_dir Q r hI hN hS hdep f ih k p d w hk h2 hF h hl (by omega)
  · exact r22seen_file Q r (f + 1) k p (rnOf (k, d)) w h (hS.full hI hN).nodes (by rw [hS.nd, hk]; rfl) (by rw [hS.kind_look hk]; exact h2)
theorem r22seen_all (Q : Rr) (r : RM) (hI : Inv N Nul m) (hN : N ≤ 20000) (hS : Sim m r) (w : World) (h : DocAt w Q r) :
  Calls Tryz.prog 75 #[.pointer (some ⟨Q.b, 0, none⟩), .int .i64 0, .string ⟨#[47]⟩] w (SeenRP (allR r) w) := by
 obtain ⟨dep, hdep⟩ := hI.tree
 obtain ⟨d, h1, _⟩ := hI.root
 have hlen := rise_len hI.rise hI.lt
 have hnx := hI.next
 have hal := all_len hI
 have hnn : r.nodes.length = m.nodes.length := by rw [hS.nodes, Md.rn, List.length_map]
 have hal2 : (allR r).length ≤ 1000000 := by rw [hS.all hI]; omega
 have := r22seen Q r hI (by omega) hS hdep r.nodes.length 0 ⟨#[47]⟩ w ⟨d, h1⟩ (by rw [hnn]; exact Fit.root hI dep) h (by show (allR r).length ≤ _; exact hal2) (by show 1 + _ ≤ _; omega)
 exact this
end
end Go.Proofs.YtppdihpobokfnaaGreatDoor
set_option linter.unusedVariables false
set_option linter.unusedSimpArgs false
set_option maxRecDepth 100000
namespace Go.Proofs.YtppdihpobokfnaaGreatDoor
open Go.RowKit Go.Joins
theorem info_itR : (Tryz.prog.info? 46).map (fun i => (i.zero, i.size, i.bytes)) = some (some (.agg #[.string ByteArray.empty, .int .i64 0, .int .i64 0, .int .i64 0, .int .i64 0, .bool false, .string ByteArray.empty]), 7, 72) := by kernel_rfl
theorem info_opR : (Tryz.prog.info? 70).map (fun i => (i.zero, i.size, i.bytes)) = some (some (.agg #[.int .i64 0, .int .i64 0, .int .i64 0, .int .i64 0]), 4, 32) := by kernel_rfl
def itR (r : RM) (ns : List Nat) (x : Bs × Nat) : It := ⟨x.1, numOf ns x.2, r.stat x.2, r.data x.2⟩
theorem viewR_items (r : RM) : viewR r = (allR r).map (itR r (numsOf ((allR r).map (·.2)))) := rfl
theorem paC_at {L : List (Bs × Nat)} {i : Nat} {x : Bs × Nat} (h : L[i]? = some x) : (paC L)[i]? = some (.string (tx x.1)) := nmC_at (by rw [List.getElem?_map, h]; rfl)
theorem niC_at {L : List (Bs × Nat)} {i : Nat} {x : Bs × Nat} (h : L[i]? = some x) : (niC L)[i]? = some (.int .i64 (x.2 : Int)) := idC_at (by rw [List.getElem?_map, h]; rfl)
section
variable {N : Nat} {m : Md}
set_option maxHeartbeats 16000000 in
theorem r22view (Q : Rr) (r : RM) (hI : Inv N Nul m) (hN : N ≤ 20000) (hS : Sim m r) (w : World) (h : DocAt w Q r) :
  Calls Tryz.prog 29 #[.pointer (some ⟨Q.b, 0, none⟩)] w fun e w' => ∃ v, e = .returned v ∧ w'.ownsRow w.heap.size 46 7 v (viewR r).length ((viewR r).flatMap itC) ∧ Below w.heap.size w w' := by
 have HSE := Lh (r22seen_all Q r hI hN hS w h)
 have HD := Lh h
 have hRF := hS.full hI (by omega)
 have HRF := Lh hRF
 have hal2 : (allR r).length ≤ 20001 := by have := all_len hI; rw [hS.all hI]; omega
 have hmem : ∀ x ∈ allR r, ∃ y, r.nd x.2 = some y := fun x hx => by
  rw [hS.all hI] at hx
  obtain ⟨d, hd⟩ := all_there hI x hx
  exact ⟨rnOf (x.2, d), by rw [hS.nd, hd]; rfl⟩
 have HAL := Lh (And.intro hal2 hmem)
 have HA0 := Lh (show 0 < (allR r).length from seenR_ne r _ 0 [47])
 rw [viewR_items]
 obtain ⟨i0, hi, hz0, hz1, hz2⟩ := info_parts4 info_itR
 have HI := Lh (And.intro hi (And.intro hz0 (And.intro hz1 hz2)))
 have hal3 : ((allR r).length : Int) ≤ 20001 := by omega
 clear hi hz0 hz1 hz2 hI hN hS h hRF hal2 hmem
 generalize allR r = A at *
 obtain ⟨ns, hns⟩ : ∃ ns, ns = numsOf (A.map (·.2)) := ⟨_, rfl⟩
 rw [← hns]
 have HNS := Lh hns
 have HNL := Lh (show ns.length ≤ 1000000 from by rw [hns]; have h1 := len_numsOf (A.map (·.2)); rw [List.length_map] at h1; have := HAL.out.1; omega)
 clear hns
 go_enter Tryz.func29, Tryz.ntmps29
 go_wp2_with fail
 refine HSE.out.mono ?_
 rintro e W1 ⟨a1, c1, a2, c2, rfl, hp, hi, hb⟩
 obtain ⟨g1, rfl, hg1, r1⟩ := new_row hp HA0.out
 obtain ⟨g2, rfl, hg2, r2⟩ := new_row hi HA0.out
 have HNU := Lh (r22numbers (some ⟨g2, 0, none⟩) c2 (A.map (·.2)) W1 (by rw [List.length_map]; have := HAL.out.1; omega) (.inr ⟨g2, 0, rfl, valAt_row (show RowAt W1 g2 (idC (A.map (·.2))) from r2)⟩))
 rw [← HNS.out, List.length_map] at HNU
 have H1 := Lh (And.intro r1 (And.intro r2 hb))
 clear hp hi hb hg1 hg2 r1 r2 HSE
 go_wp2_with fail
 refine HNU.out.mono ?_
 rintro e W2 ⟨a3, c3, rfl, hv3, hb⟩
 have H2 := Lh (show RowAt W2 g1 (paC A) ∧ RowAt W2 g2 (niC A) ∧ ValS W2 a3 (idC ns) ∧ Below w.heap.size w W2 ∧ DocAt W2 Q r from ⟨H1.out.1.below hb H1.out.1.lt, H1.out.2.1.below hb H1.out.2.1.lt, hv3, H1.out.2.2.trans (hb.mono H1.out.2.2.size), HD.out.below (H1.out.2.2.trans (hb.mono H1.out.2.2.size))⟩)
 clear hv3 hb HNU H1
 go_wp2_with fail
 go_loopw [6, 7] (fun oo jj wr => ∃ (i : Nat) (a : Option Addr) (cap : Nat), i ≤ A.length ∧ jj = .int .i64 (i : Int) ∧ oo = .slice a i cap ∧ Hid (wr.ownsRow W2.heap.size 46 7 (.slice a i cap) i (((A.take i).map (itR r ns)).flatMap itC) ∧ Below W2.heap.size W2 wr)) (fun _ jj _ => A.length - (intOf jj).toNat)
 case atStart => exact ⟨0, none, 0, by omega, rfl, rfl, Lh ⟨World.ownsRow_nil _ _ _ _, Below.refl _ _⟩⟩
 case round =>
  obtain ⟨i, a, cap, hi, rfl, rfl, HO⟩ := hrel
  by_cases hlt : i < A.length
  · obtain ⟨x, hx⟩ : ∃ x, A[i]? = some x := ⟨_, List.getElem?_eq_getElem hlt⟩
    obtain ⟨y, hy⟩ := HAL.out.2 x (List.mem_of_getElem? hx)
    obtain ⟨je, hje, hjf, hjd⟩ := nd_at hy
    have hyd : r.data x.2 = y.data := by unfold RM.data; rw [hy]
    obtain ⟨_, _, e2, _, _⟩ := H2.out.2.2.2.2.cells
    obtain ⟨gn, cn, qn, hgn, _, _, _, f3⟩ := H2.out.2.2.2.2.node hje
    rw [qn] at e2
    have hbl := H2.out.2.2.2.2.row.lt
    have p1 : W2.cell? ⟨g1, i, none⟩ = some (.string (tx x.1)) := by rw [H2.out.1.cell i (by rw [paC_len]; exact hlt)]; exact paC_at hx
    have p2 : W2.cell? ⟨g2, i, none⟩ = some (.int .i64 (x.2 : Int)) := by rw [H2.out.2.1.cell i (by rw [niC_len]; exact hlt)]; exact niC_at hx
    have HLS := Lh (show Q.b < W2.heap.size ∧ g1 < W2.heap.size ∧ g2 < W2.heap.size ∧ gn < W2.heap.size ∧ W2.heap.size ≤ wr.heap.size from ⟨hbl, H2.out.1.lt, H2.out.2.1.lt, hgn, HO.out.2.size⟩)
    have HKE := Lh (fun V (hb : Below W2.heap.size W2 V) => show V.cell? ⟨Q.b, 2, none⟩ = some (.slice (some ⟨gn, 0, none⟩) r.nodes.length cn) ∧ V.cell? ⟨g1, i, none⟩ = some (.string (tx x.1)) ∧ V.cell? ⟨g2, i, none⟩ = some (.int .i64 (x.2 : Int)) ∧ V.cell? ⟨gn, je * 4 + 3, none⟩ = some (.string (tx y.data)) from ⟨by rw [hb.cell (p := ⟨Q.b, 2, none⟩) HLS.out.1]; exact e2, by rw [hb.cell (p := ⟨g1, i, none⟩) HLS.out.2.1]; exact p1, by rw [hb.cell (p := ⟨g2, i, none⟩) HLS.out.2.2.1]; exact p2, by rw [hb.cell (p := ⟨gn, je * 4 + 3, none⟩) HLS.out.2.2.2.1]; exact f3⟩)
    have HPL := Lh (fun V (hb : Below W2.heap.size W2 V) => r22placeN a3 c3 ns x.2 V HNL.out (H2.out.2.2.1.below hb (Nat.le_refl _)))
    have HST := Lh (fun V (hb : Below W2.heap.size W2 V) => r22stat Q r x.2 y V (H2.out.2.2.2.2.below hb) HRF.out.nodes HRF.out.ents hy HRF.out.enode)
    have HNO := Lh (fun V (hb : Below W2.heap.size W2 V) => hjf ▸ r22node Q r (x.2 : Int) V (H2.out.2.2.2.2.below hb) HRF.out.nodes)
    have HB0 := Lh HO.out.2.drew
    have HOD := Lh (show wr.drew.ownsRow W2.heap.size 46 7 (.slice a i cap) i (((A.take i).map (itR r ns)).flatMap itC) from own_same HO.out.1 (fun _ _ => rfl))
    obtain ⟨p1, p2, p3, p4⟩ := HKE.out _ HO.out.2
    have l0 : Q.b < wr.heap.size := by have := HLS.out; omega
    have j1 : (je : Int) < (r.nodes.length : Int) := by have := (List.getElem?_eq_some_iff.1 hje).1; omega
    have j0 : (0 : Int) ≤ (je : Int) := by omega
    have i1 : (i : Int) < (A.length : Int) := by omega
    have i2 : (0 : Int) ≤ (i : Int) := by omega
    clear e2 f3 hgn hbl
    have HSN := Lh (show ((A.take (i + 1)).map (itR r ns)).flatMap itC = ((A.take i).map (itR r ns)).flatMap itC ++ [.string (tx x.1), .int .i64 (numOf ns x.2), .int .i64 (r.stat x.2).kind, .int .i64 (r.stat x.2).size, .int .i64 (r.stat x.2).links, .bool (r.stat x.2).pin, .string (tx y.data)] from by
     rw [List.take_add_one, hx, List.map_append, List.flatMap_append]
     show (_ : List Value) ++ ([.string (tx x.1), .int .i64 (numOf ns x.2), .int .i64 (r.stat x.2).kind, .int .i64 (r.stat x.2).size, .int .i64 (r.stat x.2).links, .bool (r.stat x.2).pin, .string (tx (r.data x.2))] : List Value) = _
     rw [hyd])
    have hii : i + 1 ≤ A.length := hlt
    clear hx hy hje hjf hjd hyd qn hlt
    generalize r.stat x.2 = st at *
    generalize numOf ns x.2 = nn at *
    generalize hXS : ((A.take i).map (itR r ns)).flatMap itC = xs at *
    go_upto_region 7 with fail
    go_region_held3 (fun V => V.cell? ⟨Q.b, 2, none⟩ = some (.slice (some ⟨gn, 0, none⟩) r.nodes.length cn) ∧ V.cell? ⟨g1, i, none⟩ = some (.string (tx x.1)) ∧ V.cell? ⟨g2, i, none⟩ = some (.int .i64 (x.2 : Int)) ∧ V.cell? ⟨gn, je * 4 + 3, none⟩ = some (.string (tx y.data))) (first | exact HKE.out _ HB0.out | exact HKE.out _ HB5.out | exact HKE.out _ (HB5.out.alloc HB5.out.size _) | exact HKE.out _ H9.out.2)
     (first
       | (go_at_call 77; refine (HPL.out _ (by first | exact HB0.out | exact HB5.out)).mono ?_; rintro e w4 ⟨rfl, rfl⟩)
       | (go_at_call 79; refine (HNO.out _ (by first | exact HB0.out | exact HB5.out)).mono ?_; rintro e w4 ⟨rfl, rfl⟩)
       | (go_at_call 78; refine (HST.out _ HB0.out).mono ?_; rintro e W5 ⟨rfl, hb5⟩; have HB5 := Lh (HB0.out.trans (hb5.mono HB0.out.size)); have HO5 := Lh (own_below HOD.out hb5))
       | (refine step_append_own rfl (.tmp 21) (.tmp 52) 43 rfl W2.heap.size 46 i0 (.agg #[.string ByteArray.empty, .int .i64 0, .int .i64 0, .int .i64 0, .int .i64 0, .bool false, .string ByteArray.empty]) 7 72 Tryz.underlying43 HI.out.1 HI.out.2.1 HI.out.2.2.1 HI.out.2.2.2 rfl (by decide) (.slice a i cap) i xs (by simp [Act.eval, Act.put]) (by exact HO5.out.alloc _) ⟨W5.heap.size, 0, none⟩ 1 1 [.string (tx x.1), .int .i64 nn, .int .i64 st.kind, .int .i64 st.size, .int .i64 st.links, .bool st.pin, .string (tx y.data)] (by simp [Act.eval, Act.put]) rfl (by exact row_newsX (rowAt_alloc W5 _ _)) (by intro u hu; simp at hu; rcases hu with rfl | rfl | rfl | rfl | rfl | rfl | rfl <;> rfl) (by unfold maxLen; omega) (by omega) (by have := HB5.out.size; rw [World.size_alloc]; omega) ?_; intro v9 w9 hown9 hg9; obtain ⟨a9, cap9, rfl⟩ := own_formX hown9; have H9 := Lh (And.intro hown9 ((HB5.out.alloc HB5.out.size _).grown hg9 (by have := HB5.out.size; rw [World.size_alloc]; omega) (fun j hj => (HO5.out.lt j hj).1))); clear hown9 hg9))
    clear HB0 HOD HO HPL HST HNO HKE HLS p1 p2 p3 p4 l0 j1 j0
    go_wp2_with fail
    go_roundw
    case rel => exact ⟨i + 1, a9, cap9, hii, by go_num, rfl, Lh ⟨by rw [HSN.out]; exact H9.out.1, H9.out.2⟩⟩
    case measure => simp [intOf]; omega
  · obtain rfl : i = A.length := by omega
    have hnl : ¬ ((A.length : Int) < (A.length : Int)) := by omega
    have hfin := own_base HO.out.1 H2.out.2.2.2.1.size
    rw [List.take_length] at hfin
    have HFI := Lh hfin
    clear hfin
    go_wp2_with fail
    go_ret
    exact ⟨.slice a A.length cap, rfl, by first | exact HFI.out | (rw [List.length_map]; exact HFI.out), H2.out.2.2.2.1.trans (HO.out.2.mono H2.out.2.2.2.1.size)⟩
def opRF (r : RM) (ns : List Nat) (i : Nat) : Option Op := match fdR r (i : Int) with
 | some x => some ⟨i, numOf ns x.n, x.a, r.size x.n⟩
 | none => none
def opRU (r : RM) (ns : List Nat) (i : Nat) : List Op := (List.range i).filterMap (opRF r ns)
theorem opRU_succ (r : RM) (ns : List Nat) (i : Nat) : opRU r ns (i + 1) = opRU r ns i ++ (opRF r ns i).toList := by
 unfold opRU
 rw [List.range_succ, List.filterMap_append]
 cases h : opRF r ns i <;> simp [h]
theorem opRU_len (r : RM) (ns : List Nat) (i : Nat) : (opRU r ns i).length ≤ i := by
 unfold opRU
 refine Nat.le_trans (List.length_filterMap_le ..) ?_
 simp
theorem openedR_is (r : RM) : openedR r = opRU r (numsOf ((allR r).map (·.2))) 16 := rfl
set_option maxHeartbeats 16000000 in
theorem r22opened (Q : Rr) (r : RM) (hI : Inv N Nul m) (hN : N ≤ 20000) (hS : Sim m r) (w : World) (h : DocAt w Q r) :
  Calls Tryz.prog 30 #[.pointer (some ⟨Q.b, 0, none⟩)] w fun e w' => ∃ v, e = .returned v ∧ w'.ownsRow w.heap.size 70 4 v (openedR r).length ((openedR r).flatMap opC) ∧ Below w.heap.size w w' := by
 have HSE := Lh (r22seen_all Q r hI hN hS w h)
 have HD := Lh h
 have hRF := hS.full hI (by omega)
 have HRF := Lh hRF
 have hal2 : (allR r).length ≤ 20001 := by have := all_len hI; rw [hS.all hI]; omega
 have HAL := Lh hal2
 have HA0 := Lh (show 0 < (allR r).length from seenR_ne r _ 0 [47])
 rw [openedR_is]
 obtain ⟨i0, hi, hz0, hz1, hz2⟩ := info_parts4 info_opR
 have HI := Lh (And.intro hi (And.intro hz0 (And.intro hz1 hz2)))
 clear hi hz0 hz1 hz2 hI hN hS h hRF hal2
 generalize allR r = A at *
 obtain ⟨ns, hns⟩ : ∃ ns, ns = numsOf (A.map (·.2)) := ⟨_, rfl⟩
 rw [← hns]
 have HNS := Lh hns
 have HNL := Lh (show ns.length ≤ 1000000 from by rw [hns]; have h1 := len_numsOf (A.map (·.2)); rw [List.length_map] at h1; have := HAL.out; omega)
 clear hns
 go_enter Tryz.func30, Tryz.ntmps30
 go_wp2_with fail
 refine HSE.out.mono ?_
 rintro e W1 ⟨a1, c1, a2, c2, rfl, hp, hi, hb⟩
 obtain ⟨g2, rfl, hg2, r2⟩ := new_row hi HA0.out
 have HNU := Lh (r22numbers (some ⟨g2, 0, none⟩) c2 (A.map (·.2)) W1 (by rw [List.length_map]; have := HAL.out; omega) (.inr ⟨g2, 0, rfl, valAt_row (show RowAt W1 g2 (idC (A.map (·.2))) from r2)⟩))
 rw [← HNS.out, List.length_map] at HNU
 have H1 := Lh hb
 clear hp hi hb hg2 r2 HSE
 go_wp2_with fail
 refine HNU.out.mono ?_
 rintro e W2 ⟨a3, c3, rfl, hv3, hb⟩
 have H2 := Lh (show ValS W2 a3 (idC ns) ∧ Below w.heap.size w W2 ∧ DocAt W2 Q r from ⟨hv3, H1.out.trans (hb.mono H1.out.size), HD.out.below (H1.out.trans (hb.mono H1.out.size))⟩)
 clear hv3 hb HNU H1
 go_wp2_with fail
 go_loopw [6, 7, 8, 9] (fun oo jj _ _ wr => ∃ (i : Nat) (a : Option Addr) (cap : Nat), i ≤ 16 ∧ jj = .int .i64 (i : Int) ∧ oo = .slice a (opRU r ns i).length cap ∧ Hid (wr.ownsRow W2.heap.size 70 4 (.slice a (opRU r ns i).length cap) (opRU r ns i).length ((opRU r ns i).flatMap opC) ∧ Below W2.heap.size W2 wr)) (fun _ jj _ _ _ => 16 - (intOf jj).toNat)
 case atStart => exact ⟨0, none, 0, by omega, rfl, rfl, Lh ⟨World.ownsRow_nil _ _ _ _, Below.refl _ _⟩⟩
 case round =>
  obtain ⟨i, a, cap, hi, rfl, rfl, HO⟩ := hrel
  have hol := opRU_len r ns i
  have hus := opRU_succ r ns i
  generalize hLL : opRU r ns i = L at *
  have HLL := Lh hLL
  clear hLL
  by_cases hlt : i < 16
  · have i1 : (i : Int) < 16 := by omega
    have i2 : (0 : Int) ≤ (i : Int) := by omega
    have HDW := Lh (H2.out.2.2.below HO.out.2)
    have hii : i + 1 ≤ 16 := hlt
    clear hlt
    rcases first_find (fdP (i : Int)) r.fds with ⟨h1, h2⟩ | ⟨j, x, h1, h2, _, h3, _⟩
    · have HFD := Lh (h1 ▸ r22fd Q r (i : Int) wr HDW.out (by have := HRF.out.fds; omega))
      have hf : opRF r ns i = none := by unfold opRF; rw [show fdR r (i : Int) = none from h2]
      rw [hf] at hus
      have HUS := Lh (show opRU r ns (i + 1) = L from by rw [hus]; simp)
      clear hus hf h1 h2
      go_wp2_with fail
      refine HFD.out.mono ?_
      rintro e w5 ⟨rfl, rfl⟩
      go_wp2_with fail
      go_roundw
      case rel => exact ⟨i + 1, a, cap, hii, by go_num, by rw [HUS.out], Lh (by rw [HUS.out]; exact HO.out)⟩
      case measure => simp [intOf]; omega
    · have HFD := Lh (h1 ▸ r22fd Q r (i : Int) wr HDW.out (by have := HRF.out.fds; omega))
      have hf : opRF r ns i = some ⟨i, numOf ns x.n, x.a, r.size x.n⟩ := by unfold opRF; rw [show fdR r (i : Int) = some x from h3]
      rw [hf] at hus
      have HUS := Lh hus
      obtain ⟨⟨y, hy, _⟩, _, _⟩ := HRF.out.fnode x (List.mem_of_getElem? h2)
      have HPL := Lh (fun V (hb : Below W2.heap.size W2 V) => r22placeN a3 c3 ns x.n V HNL.out (H2.out.1.below hb (Nat.le_refl _)))
      have HSZ := Lh (fun V (hb : Below W2.heap.size W2 V) => r22size Q r x.n y V (H2.out.2.2.below hb) HRF.out.nodes HRF.out.ents hy)
      obtain ⟨_, _, _, _, e4⟩ := HDW.out.cells
      obtain ⟨gf, cf, qf, hgf, f0, f1, f2⟩ := HDW.out.fd h2
      rw [qf] at e4
      have hbl := HDW.out.row.lt
      have j1 : (j : Int) < (r.fds.length : Int) := by have := (List.getElem?_eq_some_iff.1 h2).1; omega
      have j0 : ¬ (j : Int) < 0 := by omega
      have j2 : (0 : Int) ≤ (j : Int) := by omega
      clear hus hf h1 h2 h3 hy qf
      go_wp2_with fail
      refine HFD.out.mono ?_
      rintro e w5 ⟨rfl, rfl⟩
      generalize numOf ns x.n = nn at *
      generalize r.size x.n = sz at *
      go_upto_region 10 with fail
      have H5 := Lh (show World.ownsRow (wr.alloc (.cells #[.int .i64 (x.f : Int), .int .i64 (x.n : Int), .int .i64 (x.a : Int)] 108)) W2.heap.size 70 4 (.slice a L.length cap) L.length (L.flatMap opC) ∧ Below W2.heap.size W2 (wr.alloc (.cells #[.int .i64 (x.f : Int), .int .i64 (x.n : Int), .int .i64 (x.a : Int)] 108)) ∧ RowAt (wr.alloc (.cells #[.int .i64 (x.f : Int), .int .i64 (x.n : Int), .int .i64 (x.a : Int)] 108)) wr.heap.size [.int .i64 (x.f : Int), .int .i64 (x.n : Int), .int .i64 (x.a : Int)] ∧ ∀ k, (Value.slice a L.length cap).ownBlock = some k → k < wr.heap.size from ⟨HO.out.1.alloc _, HO.out.2.alloc HO.out.2.size _, rowAt_alloc _ _ _, fun k hk => (HO.out.1.lt k hk).2⟩)
      clear HO HDW HFD e4 f0 f1 f2 hgf hbl j1 j0 j2
      generalize World.alloc wr _ = W5 at *
      generalize wr.heap.size = G at *
      have HKE := Lh (fun V (hb : RowAt V G [.int .i64 (x.f : Int), .int .i64 (x.n : Int), .int .i64 (x.a : Int)]) => show V.cell? ⟨G, 1, none⟩ = some (.int .i64 (x.n : Int)) ∧ V.cell? ⟨G, 2, none⟩ = some (.int .i64 (x.a : Int)) from ⟨hb.cell 1 (by simp), hb.cell 2 (by simp)⟩)
      obtain ⟨p1, p2⟩ := HKE.out _ H5.out.2.2.1
      have l5 := H5.out.2.2.1.lt
      have HB0 := Lh H5.out.2.1.drew
      go_region_held3 (fun V => V.cell? ⟨G, 1, none⟩ = some (.int .i64 (x.n : Int)) ∧ V.cell? ⟨G, 2, none⟩ = some (.int .i64 (x.a : Int))) (first | exact HKE.out _ H5.out.2.2.1.drew | exact HKE.out _ H6.out.2.2 | exact HKE.out _ (H6.out.2.2.alloc _) | exact HKE.out _ H9.out.2.2)
       (first
         | (go_at_call 77; refine (HPL.out _ (by first | exact HB0.out | exact H6.out.2.1)).mono ?_; rintro e w4 ⟨rfl, rfl⟩)
         | (go_at_call 80; refine (HSZ.out _ HB0.out).mono ?_; rintro e W6 ⟨rfl, hm6⟩; have H6 := Lh (show W6.ownsRow W2.heap.size 70 4 (.slice a L.length cap) L.length (L.flatMap opC) ∧ Below W2.heap.size W2 W6 ∧ RowAt W6 G [.int .i64 (x.f : Int), .int .i64 (x.n : Int), .int .i64 (x.a : Int)] from by obtain ⟨m6, rfl⟩ := hm6; exact ⟨own_same H5.out.1 (fun _ _ => rfl), below_drewN HB0.out m6, H5.out.2.2.1⟩); clear hm6)
         | (refine step_append_own rfl (.tmp 33) (.tmp 46) 49 rfl W2.heap.size 70 i0 (.agg #[.int .i64 0, .int .i64 0, .int .i64 0, .int .i64 0]) 4 32 Tryz.underlying49 HI.out.1 HI.out.2.1 HI.out.2.2.1 HI.out.2.2.2 rfl (by decide) (.slice a L.length cap) L.length (L.flatMap opC) (by simp [Act.eval, Act.put]) (by exact H6.out.1.alloc _) ⟨W6.heap.size, 0, none⟩ 1 1 [.int .i64 (i : Int), .int .i64 nn, .int .i64 (x.a : Int), .int .i64 sz] (by simp [Act.eval, Act.put]) rfl (by exact row_newsX (rowAt_alloc W6 _ _)) (by intro u hu; simp at hu; rcases hu with rfl | rfl | rfl | rfl <;> rfl) (by unfold maxLen; omega) (by omega) (by have := H6.out.2.1.size; rw [World.size_alloc]; omega) ?_; intro v9 w9 hown9 hg9; obtain ⟨a9, cap9, rfl⟩ := own_formX hown9; have H9 := Lh (And.intro hown9 (And.intro ((H6.out.2.1.alloc H6.out.2.1.size _).grown hg9 (by have := H6.out.2.1.size; rw [World.size_alloc]; omega) (fun j hj => (H6.out.1.lt j hj).1)) ((H6.out.2.2.alloc _).grown hg9 (fun e => by have := H5.out.2.2.2 _ e; omega)))); clear hown9 hg9))
      clear HPL HSZ HKE HB0 p1 p2 l5
      go_wp2_with fail
      go_roundw
      case rel => exact ⟨i + 1, a9, cap9, hii, by go_num, by rw [HUS.out, List.length_append]; rfl, Lh ⟨by rw [HUS.out, List.length_append, List.flatMap_append]; exact H9.out.1, H9.out.2.1⟩⟩
      case measure => simp [intOf]; omega
  · obtain rfl : i = 16 := by omega
    have HFI := Lh (own_base HO.out.1 H2.out.2.1.size)
    go_wp2_with fail
    go_ret
    exact ⟨.slice a L.length cap, rfl, by rw [HLL.out]; exact HFI.out, H2.out.2.1.trans (HO.out.2.mono H2.out.2.1.size)⟩
end
set_option maxHeartbeats 4000000 in
theorem r22again (Q : Rr) (r : RM) (hF : RFull r) (w : World) (h : DocAt w Q r) :
  Calls Tryz.prog 33 #[.pointer (some ⟨Q.b, 0, none⟩)] w fun e w' => e = .returned (.tuple #[]) ∧ ∃ Q', DMid w Q.O w' Q' (againR r) ∧ Q'.b = Q.b := by
 have hg : w.grownBy w Q.vf.ownBlock := ⟨rfl, rfl, rfl, Nat.le_refl _, fun _ _ _ => rfl⟩
 have HP := Lh (DocAt.putF kinds3 h (v := .slice none 0 0) (l := []) (World.ownsRow_nil _ _ _ _) hg (.inr (fun k hk => by cases hk)))
 have HF := Lh hF
 have c4 := h.cells.2.2.2.2
 have f4 := h.free (i := 4) (by omega)
 have hbl := h.row.lt
 clear h hF hg
 go_enter Tryz.func33, Tryz.ntmps33
 go_upto_region 1 with fail
 have HS := Lh (r22sweep { Q with vf := .slice none 0 0 } { r with fds := [] } (w.setCell ⟨Q.b, 4, none⟩ (.slice none 0 0)) HP.out.2.1 HF.out.nodes HF.out.ents (Nat.zero_le _))
 generalize World.setCell w _ _ = W1 at *
 go_wp2_with fail
 refine HS.out.mono ?_
 rintro e W2 ⟨rfl, hds⟩
 obtain ⟨Q2, hQ2, hm2⟩ := hds.mid
 have H2 := Lh (And.intro hQ2 hm2)
 clear hds hQ2 hm2 HS
 go_wp2_with fail
 go_end0
 exact ⟨rfl, Q2, ⟨H2.out.2.doc, HP.out.2.2.trans H2.out.2.turn⟩, H2.out.1⟩
end Go.Proofs.YtppdihpobokfnaaGreatDoor
