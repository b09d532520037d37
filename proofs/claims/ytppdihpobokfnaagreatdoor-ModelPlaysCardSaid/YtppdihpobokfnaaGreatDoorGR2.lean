/- A part of a proof. -/
import Derived.Test.YtppdihpobokfnaaGreatDoorGR1
import Derived.Test.YtppdihpobokfnaaGreatDoorGB
set_option linter.unusedVariables false
set_option linter.unusedSimpArgs false
set_option maxRecDepth 100000
namespace Go.Proofs.YtppdihpobokfnaaGreatDoor
open Go.RowKit Go.Joins
theorem kinds3 : Kinds3 := ⟨by decide, by decide, by decide⟩
theorem info22N : (Tryz.prog.info? 93).map (fun i => (i.zero, i.size, i.bytes)) = some (some (.agg #[.int .i64 0, .int .i64 0, .bool false, .string ⟨#[]⟩]), 4, 40) := by kernel_rfl
theorem info22E : (Tryz.prog.info? 148).map (fun i => (i.zero, i.size, i.bytes)) = some (some (.agg #[.int .i64 0, .string ⟨#[]⟩, .int .i64 0]), 3, 32) := by kernel_rfl
theorem info22F : (Tryz.prog.info? 108).map (fun i => (i.zero, i.size, i.bytes)) = some (some (.agg #[.int .i64 0, .int .i64 0, .int .i64 0]), 3, 24) := by kernel_rfl
theorem row_newsX {w : World} {g : Nat} {xs : List Value} (h : RowAt w g xs) : ∀ j u, xs[j]? = some u → w.cell? ((⟨g, 0, none⟩ : Addr).add j) = some u := by
 intro j u hu
 have hj := (List.getElem?_eq_some_iff.1 hu).1
 have e : (⟨g, 0, none⟩ : Addr).add j = ⟨g, j, none⟩ := by cases j <;> simp [Addr.add]
 rw [e, h.cell j hj, hu]
theorem own_formX {W : World} {base : Nat} {e : TypeId} {sz n : Nat} {v : Value} {xs : List Value} (h : W.ownsRow base e sz v n xs) : ∃ a cap, v = .slice a n cap := own_form5 h
set_option maxHeartbeats 4000000 in
theorem r22new_no (n : Int) (w : World) (hn : n < 8 ∨ 512 < n) :
  Calls Tryz.prog 25 #[.int .i64 n] w fun e w' => e = .returned (.tuple #[.pointer none, .int .i64 2]) ∧ w = w' := by
 by_cases c : n < 8
 · go_enter Tryz.func25, Tryz.ntmps25
   go_wp2_with fail
   go_ret2
   exact ⟨rfl, rfl⟩
 · have c2 : 512 < n := by omega
   go_enter Tryz.func25, Tryz.ntmps25
   go_wp2_with fail
   go_ret2
   exact ⟨rfl, rfl⟩
theorem new_doc (n : Nat) (w : World) : DocAt ((w.alloc (.cells #[.int .i64 0, .int .i64 2, .bool false, .string ⟨#[]⟩] 93)).alloc (.cells #[.int .i64 (n : Int), .int .i64 1, .slice (some ⟨w.heap.size, 0, none⟩) 1 1, .slice none 0 0, .slice none 0 0] 98)) ⟨w.heap.size + 1, .slice (some ⟨w.heap.size, 0, none⟩) 1 1, .slice none 0 0, .slice none 0 0⟩ (newRM n) := by
 have hr := rowAt_alloc (w.alloc (.cells #[.int .i64 0, .int .i64 2, .bool false, .string ⟨#[]⟩] 93)) #[.int .i64 (n : Int), .int .i64 1, .slice (some ⟨w.heap.size, 0, none⟩) 1 1, .slice none 0 0, .slice none 0 0] 98
 rw [World.size_alloc] at hr
 refine ⟨hr, ?_, World.ownsRow_nil _ _ _ _, World.ownsRow_nil _ _ _ _, fun k hk => ?_⟩
 · refine ⟨rfl, .inr ⟨w.heap.size, 1, #[.int .i64 0, .int .i64 2, .bool false, .string ⟨#[]⟩], rfl, Nat.zero_le _, ?_, Nat.le_refl _, by unfold maxLen; omega, rfl, rfl⟩⟩
   exact (Below.heap_alloc _ _ _ (by simp)).trans (heap_alloc_new w _)
 · rcases hk with q | q | q
   · cases q; show w.heap.size ≠ w.heap.size + 1; omega
   · cases q
   · cases q
set_option maxHeartbeats 4000000 in
theorem r22new (n : Nat) (w : World) (hn : 8 ≤ n ∧ n ≤ 512) :
  Calls Tryz.prog 25 #[.int .i64 (n : Int)] w fun e w' => ∃ Q : Rr, e = .returned (.tuple #[.pointer (some ⟨Q.b, 0, none⟩), .int .i64 0]) ∧ DocAt w' Q (newRM n) ∧ Below w.heap.size w w' ∧ ∀ k, Q.O k → w.heap.size ≤ k := by
 have c1 : ¬ (n : Int) < 8 := by omega
 have c2 : ¬ (512 : Int) < (n : Int) := by omega
 have HD := Lh (new_doc n w)
 clear hn
 go_enter Tryz.func25, Tryz.ntmps25
 go_wp2_with fail
 go_ret2
 refine ⟨⟨w.heap.size + 1, .slice (some ⟨w.heap.size, 0, none⟩) 1 1, .slice none 0 0, .slice none 0 0⟩, by rfl, HD.out, by go_grown, fun k hk => ?_⟩
 rcases hk with rfl | q | q | q
 · show w.heap.size ≤ w.heap.size + 1; omega
 · cases q; exact Nat.le_refl _
 · cases q
 · cases q
def DStep (w : World) (Q : Rr) (w' : World) (r' : RM) : Prop := ∃ Q' : Rr, Q'.b = Q.b ∧ DocAt w' Q' r' ∧ Turns Q.O Q'.O w w'
set_option maxHeartbeats 8000000 in
theorem r22make1 (Q : Rr) (r : RM) (a : Pl) (kind : Int) (s : ByteArray) (hs : bts s = a.name) (w : World) (h : DocAt w Q r) (hn : r.nodes.length ≤ 1000000) (hm : r.ents.length ≤ 1000000) (hx : r.next ≤ 1000000) (hl : r.limit ≤ 1000000) :
  Calls Tryz.prog 111 #[.pointer (some ⟨Q.b, 0, none⟩), .int .i64 (a.dir : Int), .string s, .int .i64 kind] w fun e w' => e = .returned (.tuple #[.int .i64 ((make1R r a kind).1.1 : Int), .int .i64 (make1R r a kind).1.2]) ∧ DStep w Q w' (make1R r a kind).2 := by
 obtain ⟨iN, hi, hz0, hz1, hz2⟩ := info_parts info22N
 have HIN := Lh (And.intro hi (And.intro hz0 (And.intro hz1 hz2)))
 clear hi hz0 hz1 hz2
 obtain ⟨iE, hi, hz0, hz1, hz2⟩ := info_parts info22E
 have HIE := Lh (And.intro hi (And.intro hz0 (And.intro hz1 hz2)))
 clear hi hz0 hz1 hz2
 have HD := Lh h
 have HLN := Lh hn
 have HLE := Lh hm
 obtain ⟨e0, e1, e2, e3, e4⟩ := h.cells
 obtain ⟨an, cn, hvn⟩ := own_form5 h.nodes
 rw [hvn] at e2
 have hbl := h.row.lt
 have hx' : (r.next : Int) ≤ 1000000 := by omega
 have hx0 : (0 : Int) ≤ (r.next : Int) := by omega
 clear h hn hm hx
 by_cases c : r.limit ≤ r.nodes.length
 · have c1 : (r.limit : Int) ≤ (r.nodes.length : Int) := by omega
   have HR := Lh (show make1R r a kind = ((0, 171), r) from if_pos c)
   clear c hvn e3 e4 e1
   go_enter Tryz.func111, Tryz.ntmps111
   go_wp2_with fail
   go_quiet (fail)
   go_wp2_with fail
   go_ret2
   rw [HR.out]
   exact ⟨rfl, Q, rfl, HD.out.drewN nq, Turns.below (below_drewN (Below.refl _ _) nq)⟩
 · have c1 : ¬ (r.limit : Int) ≤ (r.nodes.length : Int) := by omega
   have HR := Lh (show make1R r a kind = ((r.next, 0), { r with next := r.next + 1, nodes := r.nodes ++ [⟨r.next, kind, false, []⟩], ents := r.ents ++ [⟨a.dir, a.name, r.next⟩] }) from if_neg c)
   have HS := Lh hs
   have f1 := HD.out.free (i := 1) (by omega)
   clear c hvn e3 e4 hs
   go_enter Tryz.func111, Tryz.ntmps111
   go_wp2_with fail
   go_quiet (fail)
   go_upto_region 5 with fail
   have HD1 := Lh ((HD.out.drewN nq).setNext (r.next + 1))
   have HT0 := Lh ((Turns.below (O := Q.O) (below_drewN (Below.refl w.heap.size w) nq)).trans HD1.out.2)
   rw [show ((r.next + 1 : Nat) : Int) = (r.next : Int) + 1 by omega] at HD1 HT0
   have HDA := Lh HD1.out.1
   clear HD1 e0 e1 e2 f1 hbl
   generalize World.setCell _ _ _ = W1 at *
   obtain ⟨_, _, e2, e3, e4⟩ := HDA.out.cells
   obtain ⟨aX, cX, hvX⟩ := own_form5 HDA.out.nodes
   have hbl := HDA.out.row.lt
   rw [hvX] at e2
   have HVX := Lh hvX
   have HOX := Lh (show (W1).ownsRow 0 93 4 (.slice aX (r).nodes.length cX) (r).nodes.length ((r).nodes.flatMap rnC) from by have := HDA.out.nodes; rw [hvX] at this; exact this)
   have HRX := Lh (rowAt_alloc (W1) #[.int .i64 (r.next : Int), .int .i64 kind, .bool false, .string ⟨#[]⟩] 93)
   clear hvX
   go_wp2_with (at_builtin; refine wpList_append_own_at _ rfl _ _ 94 rfl 0 93 iN (.agg #[.int .i64 0, .int .i64 0, .bool false, .string ⟨#[]⟩]) 4 40 Tryz.underlying94 HIN.out.1 HIN.out.2.1 HIN.out.2.2.1 HIN.out.2.2.2 rfl (by decide) _ (r).nodes.length _ rfl (HOX.out.alloc _) ⟨(W1).heap.size, 0, none⟩ 1 1 [.int .i64 (r.next : Int), .int .i64 kind, .bool false, .string ⟨#[]⟩] rfl rfl (row_newsX HRX.out) ?c2 ?c3 ?c4 (Nat.zero_le _) ?_)
   case c2 => first | ((repeat' apply And.intro) <;> rfl) | (intro u hu; simp at hu; rcases hu with rfl | rfl | rfl | rfl <;> rfl)
   case c3 => have := HLN.out; unfold maxLen; omega
   case c4 => have := HLN.out; omega
   intro vX wX ownX gX _ atX
   obtain ⟨aY, cY, rfl⟩ := own_formX ownX
   have HPX := Lh (DocAt.putN kinds3 (HDA.out.alloc (.cells #[.int .i64 (r.next : Int), .int .i64 kind, .bool false, .string ⟨#[]⟩] 93)) (l := (r).nodes ++ [⟨r.next, kind, false, []⟩]) (by rw [List.length_append, List.flatMap_append]; have := ownX; first | exact this | (simp only [reC, rnC, rfC, List.flatMap_cons, List.flatMap_nil, List.append_nil, List.length_cons, List.length_nil] at *; (try rw [← HS.out, tx_back]); exact this)) (by rw [HVX.out]; exact gX) (by rw [HVX.out]; rcases atX with q | q; exact .inl q; exact .inr (fun k hk => by rw [q] at hk; cases hk; simp)))
   have fX := HPX.out.1.frozen 2 (by simp)
   have cX' := HPX.out.1.cell 2 (by simp)
   have lX := HPX.out.1.lt
   have HD2 := Lh (And.intro HPX.out.2.1 ((Turns.below ((Below.refl (W1).heap.size (W1)).alloc (Nat.le_refl _) (.cells #[.int .i64 (r.next : Int), .int .i64 kind, .bool false, .string ⟨#[]⟩] 93))).trans HPX.out.2.2))
   clear ownX gX atX HPX HRX HOX e2 e3 e4 hbl
   go_upto_region 6 with fail
   have hDX := HD2.out
   generalize hQY : (Rr.mk Q.b _ Q.ve Q.vf) = Q2 at hDX
   have hQX : Q2.b = Q.b := by rw [← hQY]
   have HD3 : Hid (DocAt _ Q2 ({ r with next := r.next + 1, nodes := r.nodes ++ [⟨r.next, kind, false, []⟩] }) ∧ Turns Q.O Q2.O (W1) _) := hDX
   clear hQY
   clear hDX HD2 fX cX' lX HVX
   try clear HOX
   generalize World.setCell _ _ _ = W2 at *
   rw [← hQX]
   have HQ2 := Lh hQX
   clear hQX
   have HDB := Lh HD3.out.1
   obtain ⟨_, _, e2, e3, e4⟩ := HDB.out.cells
   obtain ⟨aX, cX, hvX⟩ := own_form5 HDB.out.ents
   have hbl := HDB.out.row.lt
   rw [hvX] at e3
   have HVX := Lh hvX
   have HOX := Lh (show (W2).ownsRow 0 148 3 (.slice aX (r).ents.length cX) (r).ents.length ((r).ents.flatMap reC) from by have := HDB.out.ents; rw [hvX] at this; exact this)
   have HRX := Lh (rowAt_alloc (W2) #[.int .i64 (a.dir : Int), .string s, .int .i64 (r.next : Int)] 148)
   clear hvX
   go_wp2_with (at_builtin; refine wpList_append_own_at _ rfl _ _ 95 rfl 0 148 iE (.agg #[.int .i64 0, .string ⟨#[]⟩, .int .i64 0]) 3 32 Tryz.underlying95 HIE.out.1 HIE.out.2.1 HIE.out.2.2.1 HIE.out.2.2.2 rfl (by decide) _ (r).ents.length _ rfl (HOX.out.alloc _) ⟨(W2).heap.size, 0, none⟩ 1 1 [.int .i64 (a.dir : Int), .string s, .int .i64 (r.next : Int)] rfl rfl (row_newsX HRX.out) ?c2 ?c3 ?c4 (Nat.zero_le _) ?_)
   case c2 => first | ((repeat' apply And.intro) <;> rfl) | (intro u hu; simp at hu; rcases hu with rfl | rfl | rfl <;> rfl)
   case c3 => have := HLE.out; unfold maxLen; omega
   case c4 => have := HLE.out; omega
   intro vX wX ownX gX _ atX
   obtain ⟨aY, cY, rfl⟩ := own_formX ownX
   have HPX := Lh (DocAt.putE kinds3 (HDB.out.alloc (.cells #[.int .i64 (a.dir : Int), .string s, .int .i64 (r.next : Int)] 148)) (l := (r).ents ++ [⟨a.dir, a.name, r.next⟩]) (by rw [List.length_append, List.flatMap_append]; have := ownX; first | exact this | (simp only [reC, rnC, rfC, List.flatMap_cons, List.flatMap_nil, List.append_nil, List.length_cons, List.length_nil] at *; (try rw [← HS.out, tx_back]); exact this)) (by rw [HVX.out]; exact gX) (by rw [HVX.out]; rcases atX with q | q; exact .inl q; exact .inr (fun k hk => by rw [q] at hk; cases hk; simp)))
   have fX := HPX.out.1.frozen 3 (by simp)
   have cX' := HPX.out.1.cell 3 (by simp)
   have lX := HPX.out.1.lt
   have HD4 := Lh (And.intro HPX.out.2.1 ((Turns.below ((Below.refl (W2).heap.size (W2)).alloc (Nat.le_refl _) (.cells #[.int .i64 (a.dir : Int), .string s, .int .i64 (r.next : Int)] 148))).trans HPX.out.2.2))
   clear ownX gX atX HPX HRX HOX e2 e3 e4 hbl
   go_upto_region 7 with fail
   have hDX := HD4.out
   generalize hQY : (Rr.mk Q2.b Q2.vn _ Q2.vf) = Q3 at hDX
   have hQX : Q3.b = Q2.b := by rw [← hQY]
   have HD5 : Hid (DocAt _ Q3 ({ r with next := r.next + 1, nodes := r.nodes ++ [⟨r.next, kind, false, []⟩], ents := r.ents ++ [⟨a.dir, a.name, r.next⟩] }) ∧ Turns Q2.O Q3.O (W2) _) := hDX
   clear hQY
   clear hDX HD4 fX cX' lX HVX
   try clear HOX
   generalize World.setCell _ _ _ = W3 at *
   rw [← hQX]
   have HQ3 := Lh hQX
   clear hQX
   go_wp2_with fail
   go_ret2
   rw [HR.out]
   exact ⟨rfl, Q3, HQ3.out.trans HQ2.out, HD5.out.1, (HT0.out.trans HD3.out.2).trans HD5.out.2⟩
end Go.Proofs.YtppdihpobokfnaaGreatDoor
set_option linter.unusedVariables false
set_option linter.unusedSimpArgs false
set_option maxRecDepth 100000
namespace Go.Proofs.YtppdihpobokfnaaGreatDoor
open Go.RowKit Go.Joins
theorem oneE (l : List RE) : ∀ u ∈ l.flatMap reC, u.oneCell' = true := by
 intro u hu
 rw [List.mem_flatMap] at hu
 obtain ⟨d, _, hu⟩ := hu
 simp only [reC, List.mem_cons, List.not_mem_nil, or_false] at hu
 rcases hu with rfl | rfl | rfl <;> rfl
theorem oneF (l : List RF) : ∀ u ∈ l.flatMap rfC, u.oneCell' = true := by
 intro u hu
 rw [List.mem_flatMap] at hu
 obtain ⟨d, _, hu⟩ := hu
 simp only [rfC, List.mem_cons, List.not_mem_nil, or_false] at hu
 rcases hu with rfl | rfl | rfl <;> rfl
theorem dstep {w w' : World} {Q Q' : Rr} {r' : RM} (h : DocAt w' Q' r' ∧ Turns Q.O Q'.O w w') (hb : Q'.b = Q.b) : DStep w Q w' r' := ⟨Q', hb, h.1, h.2⟩
theorem addrX (g o j : Nat) : (⟨g, o, none⟩ : Addr).add j = ⟨g, o + j, none⟩ := by cases j <;> simp [Addr.add]
theorem enP_at {r : RM} {dir : Nat} {s : ByteArray} {k : Nat} {x : RE} (hi : firstAt (enP (dir : Int) s) r.ents = k) (hx : r.ents[k]? = some x) : (unnameR r dir (bts s)).ents = r.ents.take k ++ r.ents.drop (k + 1) := by
 rcases first_find (enP (dir : Int) s) r.ents with ⟨q, _⟩ | ⟨i, y, q, h1, h2, _, h3⟩
 · rw [hi] at q; omega
 · rw [hi] at q
   obtain rfl : k = i := by omega
   rw [h1] at hx; cases hx
   show r.ents.eraseP _ = _
   rw [← enP_fun]
   exact erase_at h1 h2 h3
set_option maxHeartbeats 8000000 in
theorem r22unname (Q : Rr) (r : RM) (dir : Nat) (s : ByteArray) (k : Nat) (x : RE) (w : World) (h : DocAt w Q r) (hm : r.ents.length ≤ 1000000) (hi : firstAt (enP (dir : Int) s) r.ents = k) (hx : r.ents[k]? = some x) :
  Calls Tryz.prog 113 #[.pointer (some ⟨Q.b, 0, none⟩), .int .i64 (dir : Int), .string s] w fun e w' => e = .returned (.tuple #[]) ∧ DStep w Q w' (unnameR r dir (bts s)) := by
 have hU : unnameR r dir (bts s) = { r with ents := r.ents.take k ++ r.ents.drop (k + 1) } := by
  have := enP_at hi hx
  unfold unnameR at *
  rw [← this]
 rw [hU]
 have HN := Lh (r22entry Q r dir s w h hm)
 rw [hi] at HN
 obtain ⟨iE, hi', hz0, hz1, hz2⟩ := info_parts info22E
 have HIE := Lh (And.intro hi' (And.intro hz0 (And.intro hz1 hz2)))
 have HD := Lh h
 have HLE := Lh hm
 have hkX := (List.getElem?_eq_some_iff.1 hx).1
 obtain ⟨gX, cX, hvX, hgX, hcX, _⟩ := own_el reC_len h.ents hx
 clear hi' hz0 hz1 hz2 hU hi hx h hm
 by_cases hcz : cX = k + 1
 · subst hcz
   obtain ⟨_, _, e2, e3, e4⟩ := HD.out.cells
   have e3' := e3
   rw [hvX] at e3
   have hbl := HD.out.row.lt
   have hcx : ∀ W, Below (w).heap.size (w) W → ∀ j, j < (r).ents.length * 3 → W.cell? ⟨gX, j, none⟩ = ((r).ents.flatMap reC)[j]? := fun W hW j hj => by
    have h9 := (HD.out.below hW).ents
    rw [hvX] at h9
    exact h9.cellAt _ hj
   obtain ⟨T1, hT1⟩ : ∃ T1, T1 = ((r).ents.take k).flatMap reC := ⟨_, rfl⟩
   obtain ⟨T3, hT3⟩ : ∃ T3, T3 = ((r).ents.drop (k + 1)).flatMap reC := ⟨_, rfl⟩
   have HT1 : Hid (T1.length = k * 3 ∧ (∀ W, Below (w).heap.size (w) W → ∀ j u, T1[j]? = some u → W.cell? ((⟨gX, 0, none⟩ : Addr).add j) = some u) ∧ ∀ u ∈ T1, u.oneCell' = true) := by
    refine ⟨by rw [hT1, el_len (f := reC) (sz := 3) (fun _ => rfl), List.length_take]; congr 1; omega, fun W hW j u hu => ?_, by rw [hT1]; exact oneE _⟩
    rw [addrX]
    have hk' : 0 + j < (r).ents.length * 3 := by
     have h9 := (List.getElem?_eq_some_iff.1 hu).1
     rw [hT1, el_len (f := reC) (sz := 3) (fun _ => rfl), List.length_take] at h9
     have : min k (r).ents.length * 3 ≤ (r).ents.length * 3 := Nat.mul_le_mul_right _ (Nat.min_le_right _ _)
     omega
    rw [hcx W hW _ hk', Nat.zero_add, ← hu, hT1, ← el_take (f := reC) (sz := 3) (fun _ => rfl), List.getElem?_take_of_lt (by
     have h9 := (List.getElem?_eq_some_iff.1 hu).1
     rw [hT1, el_len (f := reC) (sz := 3) (fun _ => rfl), List.length_take] at h9
     have : min k (r).ents.length * 3 ≤ k * 3 := Nat.mul_le_mul_right _ (Nat.min_le_left _ _)
     omega)]
   have HT3 : Hid (T3.length = ((r).ents.length - (k + 1)) * 3 ∧ (∀ W, Below (w).heap.size (w) W → ∀ j u, T3[j]? = some u → W.cell? ((⟨gX, 0, none⟩ : Addr).add j) = some u) ∧ ∀ u ∈ T3, u.oneCell' = true) := by
    refine ⟨by rw [hT3, el_len (f := reC) (sz := 3) (fun _ => rfl), List.length_drop], fun W hW j u hu => ?_, by rw [hT3]; exact oneE _⟩
    rw [hT3, List.drop_of_length_le (by omega)] at hu
    simp at hu
   have HE : Hid (T1 ++ T3 = ((r).ents.take k ++ (r).ents.drop (k + 1)).flatMap reC ∧ ((r).ents.take k ++ (r).ents.drop (k + 1)).length = (k + ((r).ents.length - (k + 1)))) := by
    refine ⟨by rw [hT1, hT3]; simp, by simp; omega⟩
   have hlt : Hid (k + ((r).ents.length - (k + 1)) ≤ 1000000 ∧ k < (r).ents.length) := ⟨by have := HLE.out; omega, hkX⟩
   have i1 : (0 : Int) ≤ (k : Int) := by omega
   have i2 : (k : Int) < ((r).ents.length : Int) := by omega
   have i3 : (k : Int) ≤ ((k + 1) : Int) := by omega
   have i4 : (k : Int) + 1 ≤ ((r).ents.length : Int) := by omega
   have i5 : (0 : Int) ≤ (k : Int) + 1 := by omega
   have i6 : ((r).ents.length : Int) ≤ ((k + 1) : Int) := by omega
   have i7 : ((r).ents.length : Int) ≤ 1000000 := by have := HLE.out; omega
   have hneg : ¬ ((k : Int) < 0) := by omega
   have iw : IntKind.i64.wrap ((k : Int) + 1) = (k : Int) + 1 := IntWalk.i64_in _ (by omega)
   have HVX := Lh hvX
   have HS1 : Hid (Below (w).heap.size (w) (w).drew) := (Below.refl _ _).drew
   have HQF : Hid (∀ W, Below (w).heap.size (w) W → W.cell? ⟨Q.b, 3, none⟩ = some (.slice (some ⟨gX, 0, none⟩) (r).ents.length (k + 1)) ∧ W.frozen? ⟨Q.b, 3, none⟩ = false ∧ Q.b < W.heap.size) := fun W hW => ⟨by
    obtain ⟨_, _, q2, q3, q4⟩ := (HD.out.below hW).cells
    rw [hvX] at q3; exact q3, (HD.out.below hW).free (by omega), (HD.out.below hW).row.lt⟩
   have d1 : (w).drew.cell? ⟨Q.b, 3, none⟩ = some (.slice (some ⟨gX, 0, none⟩) (r).ents.length (k + 1)) := (HQF.out _ HS1.out).1
   clear hT1 hT3 hcx hvX e2 e3 e4 e3'
   go_enter Tryz.func113, Tryz.ntmps113
   go_wp2_with fail
   refine HN.out.mono ?_
   rintro e w1 ⟨rfl, rfl⟩
   go_wp2_with fail
   go_region_law (first
    | (refine step_append_own rfl (.const (.slice none 0 0)) (.tmp 17) 95 rfl (w).heap.size 148 iE (.agg #[.int .i64 0, .string ⟨#[]⟩, .int .i64 0]) 3 32 Tryz.underlying95 HIE.out.1 HIE.out.2.1 HIE.out.2.2.1 HIE.out.2.2.2 rfl (by decide) (.slice none 0 0) 0 [] (by rfl) (World.ownsRow_nil (w).drew (w).heap.size 148 3) ⟨gX, 0, none⟩ k (k + 1) T1 (by simp [Act.eval, Act.put]) HT1.out.1 (HT1.out.2.1 (w).drew HS1.out) HT1.out.2.2 (by have := hlt.out.1; unfold maxLen; omega) (by have := hlt.out.1; omega) (Nat.le_refl (w).heap.size) ?_; intro v5 w5 own5 grow5; have HO5 := Lh own5; have HS5 := Lh (HS1.out.grown grow5 (Nat.le_refl _) (fun j hj => by simp [Value.ownBlock] at hj)); have HZ5 := Lh grow5.size; have C5 : w5.cell? ⟨Q.b, 3, none⟩ = some (.slice (some ⟨gX, 0, none⟩) (r).ents.length (k + 1)) := (HQF.out _ HS5.out).1; clear own5 grow5)
    | (refine step_append_own rfl (.tmp 18) (.tmp 25) 95 rfl (w).heap.size 148 iE (.agg #[.int .i64 0, .string ⟨#[]⟩, .int .i64 0]) 3 32 Tryz.underlying95 HIE.out.1 HIE.out.2.1 HIE.out.2.2.1 HIE.out.2.2.2 rfl (by decide) v5 (0 + k) ([] ++ T1) (by simp [Act.eval, Act.put]) HO5.out ⟨gX, 0, none⟩ 0 0 T3 (by simp [Act.eval, Act.put]) (by have := HT3.out.1; have := hlt.out.2; omega) (HT3.out.2.1 w5 HS5.out) HT3.out.2.2 (by have := hlt.out.1; unfold maxLen; omega) (by have := hlt.out.1; omega) (by have := HZ5.out; exact this) ?_; intro v6 w6 own6 grow6; obtain ⟨a6, cap6, rfl⟩ := own_formX own6; have HO6 := Lh own6; have hlo5 : ∀ j, v5.ownBlock = some j → (w).heap.size ≤ j := (fun j hj => (HO5.out.lt j hj).1); have HS6 := Lh (HS5.out.grown grow6 (by have := HZ5.out; exact this) hlo5); have C6 : w6.cell? ⟨Q.b, 3, none⟩ = some (.slice (some ⟨gX, 0, none⟩) (r).ents.length (k + 1)) := (HQF.out _ HS6.out).1; have F6 := (HQF.out _ HS6.out).2.1; have L6 := (HQF.out _ HS6.out).2.2; clear own6 grow6 hlo5))
   all_goals
    have HPX : Hid (DocAt (w6.setCell ⟨Q.b, 3, none⟩ (.slice a6 k cap6)) { Q with ve := .slice a6 k cap6 } { r with ents := (r).ents.take k ++ (r).ents.drop (k + 1) } ∧ Turns Q.O ({ Q with ve := .slice a6 k cap6 } : Rr).O (w) (w6.setCell ⟨Q.b, 3, none⟩ (.slice a6 k cap6))) := by
     have ho : w6.ownsRow 0 148 3 (.slice a6 k cap6) ((r).ents.take k ++ (r).ents.drop (k + 1)).length (((r).ents.take k ++ (r).ents.drop (k + 1)).flatMap reC) := by
      rw [← HE.out.1, HE.out.2]
      have h9 := own_base HO6.out (Nat.zero_le _)
      rw [List.nil_append, Nat.zero_add] at h9
      rw [show (r).ents.length - (k + 1) = 0 by omega, Nat.add_zero]
      exact h9
     have hf : ∀ kk, (Value.slice a6 k cap6).ownBlock = some kk → (w).heap.size ≤ kk := fun j hj => (HO6.out.lt j (by first | exact hj | (rw [Nat.zero_add]; exact hj) | simpa using hj)).1
     have hp := DocAt.putE kinds3 HD.out ho ⟨HS6.out.os, HS6.out.tape, HS6.out.output, HS6.out.size, fun k hl _ => HS6.out.block k hl⟩ (.inr hf)
     exact hp.2
   all_goals
    go_wp2_with fail
    go_end0
    exact ⟨rfl, dstep HPX.out rfl⟩
 · have hcz2 := hcz
   obtain ⟨_, _, e2, e3, e4⟩ := HD.out.cells
   have e3' := e3
   rw [hvX] at e3
   have hbl := HD.out.row.lt
   have hcx : ∀ W, Below (w).heap.size (w) W → ∀ j, j < (r).ents.length * 3 → W.cell? ⟨gX, j, none⟩ = ((r).ents.flatMap reC)[j]? := fun W hW j hj => by
    have h9 := (HD.out.below hW).ents
    rw [hvX] at h9
    exact h9.cellAt _ hj
   obtain ⟨T1, hT1⟩ : ∃ T1, T1 = ((r).ents.take k).flatMap reC := ⟨_, rfl⟩
   obtain ⟨T3, hT3⟩ : ∃ T3, T3 = ((r).ents.drop (k + 1)).flatMap reC := ⟨_, rfl⟩
   have HT1 : Hid (T1.length = k * 3 ∧ (∀ W, Below (w).heap.size (w) W → ∀ j u, T1[j]? = some u → W.cell? ((⟨gX, 0, none⟩ : Addr).add j) = some u) ∧ ∀ u ∈ T1, u.oneCell' = true) := by
    refine ⟨by rw [hT1, el_len (f := reC) (sz := 3) (fun _ => rfl), List.length_take]; congr 1; omega, fun W hW j u hu => ?_, by rw [hT1]; exact oneE _⟩
    rw [addrX]
    have hk' : 0 + j < (r).ents.length * 3 := by
     have h9 := (List.getElem?_eq_some_iff.1 hu).1
     rw [hT1, el_len (f := reC) (sz := 3) (fun _ => rfl), List.length_take] at h9
     have : min k (r).ents.length * 3 ≤ (r).ents.length * 3 := Nat.mul_le_mul_right _ (Nat.min_le_right _ _)
     omega
    rw [hcx W hW _ hk', Nat.zero_add, ← hu, hT1, ← el_take (f := reC) (sz := 3) (fun _ => rfl), List.getElem?_take_of_lt (by
     have h9 := (List.getElem?_eq_some_iff.1 hu).1
     rw [hT1, el_len (f := reC) (sz := 3) (fun _ => rfl), List.length_take] at h9
     have : min k (r).ents.length * 3 ≤ k * 3 := Nat.mul_le_mul_right _ (Nat.min_le_left _ _)
     omega)]
   have HT3 : Hid (T3.length = ((r).ents.length - (k + 1)) * 3 ∧ (∀ W, Below (w).heap.size (w) W → ∀ j u, T3[j]? = some u → W.cell? ((⟨gX, (k + 1) * 3, none⟩ : Addr).add j) = some u) ∧ ∀ u ∈ T3, u.oneCell' = true) := by
    refine ⟨by rw [hT3, el_len (f := reC) (sz := 3) (fun _ => rfl), List.length_drop], fun W hW j u hu => ?_, by rw [hT3]; exact oneE _⟩
    rw [addrX]
    have hk' : (k + 1) * 3 + j < (r).ents.length * 3 := by
     have h9 := (List.getElem?_eq_some_iff.1 hu).1
     rw [hT3, el_len (f := reC) (sz := 3) (fun _ => rfl), List.length_drop] at h9
     omega
    rw [hcx W hW _ hk', ← hu, hT3, ← el_drop (f := reC) (sz := 3) (fun _ => rfl), List.getElem?_drop]
   have HE : Hid (T1 ++ T3 = ((r).ents.take k ++ (r).ents.drop (k + 1)).flatMap reC ∧ ((r).ents.take k ++ (r).ents.drop (k + 1)).length = (k + ((r).ents.length - (k + 1)))) := by
    refine ⟨by rw [hT1, hT3]; simp, by simp; omega⟩
   have hlt : Hid (k + ((r).ents.length - (k + 1)) ≤ 1000000 ∧ k < (r).ents.length) := ⟨by have := HLE.out; omega, hkX⟩
   have i1 : (0 : Int) ≤ (k : Int) := by omega
   have i2 : (k : Int) < ((r).ents.length : Int) := by omega
   have i3 : (k : Int) ≤ (cX : Int) := by omega
   have i4 : (k : Int) + 1 ≤ ((r).ents.length : Int) := by omega
   have i5 : (0 : Int) ≤ (k : Int) + 1 := by omega
   have i6 : ((r).ents.length : Int) ≤ (cX : Int) := by omega
   have i7 : ((r).ents.length : Int) ≤ 1000000 := by have := HLE.out; omega
   have hneg : ¬ ((k : Int) < 0) := by omega
   have iw : IntKind.i64.wrap ((k : Int) + 1) = (k : Int) + 1 := IntWalk.i64_in _ (by omega)
   have HVX := Lh hvX
   have HS1 : Hid (Below (w).heap.size (w) (w).drew) := (Below.refl _ _).drew
   have HQF : Hid (∀ W, Below (w).heap.size (w) W → W.cell? ⟨Q.b, 3, none⟩ = some (.slice (some ⟨gX, 0, none⟩) (r).ents.length cX) ∧ W.frozen? ⟨Q.b, 3, none⟩ = false ∧ Q.b < W.heap.size) := fun W hW => ⟨by
    obtain ⟨_, _, q2, q3, q4⟩ := (HD.out.below hW).cells
    rw [hvX] at q3; exact q3, (HD.out.below hW).free (by omega), (HD.out.below hW).row.lt⟩
   have d1 : (w).drew.cell? ⟨Q.b, 3, none⟩ = some (.slice (some ⟨gX, 0, none⟩) (r).ents.length cX) := (HQF.out _ HS1.out).1
   clear hT1 hT3 hcx hvX e2 e3 e4 e3'
   go_enter Tryz.func113, Tryz.ntmps113
   go_wp2_with fail
   refine HN.out.mono ?_
   rintro e w1 ⟨rfl, rfl⟩
   go_wp2_with fail
   go_region_law (first
    | (refine step_append_own rfl (.const (.slice none 0 0)) (.tmp 17) 95 rfl (w).heap.size 148 iE (.agg #[.int .i64 0, .string ⟨#[]⟩, .int .i64 0]) 3 32 Tryz.underlying95 HIE.out.1 HIE.out.2.1 HIE.out.2.2.1 HIE.out.2.2.2 rfl (by decide) (.slice none 0 0) 0 [] (by rfl) (World.ownsRow_nil (w).drew (w).heap.size 148 3) ⟨gX, 0, none⟩ k cX T1 (by simp [Act.eval, Act.put]) HT1.out.1 (HT1.out.2.1 (w).drew HS1.out) HT1.out.2.2 (by have := hlt.out.1; unfold maxLen; omega) (by have := hlt.out.1; omega) (Nat.le_refl (w).heap.size) ?_; intro v5 w5 own5 grow5; have HO5 := Lh own5; have HS5 := Lh (HS1.out.grown grow5 (Nat.le_refl _) (fun j hj => by simp [Value.ownBlock] at hj)); have HZ5 := Lh grow5.size; have C5 : w5.cell? ⟨Q.b, 3, none⟩ = some (.slice (some ⟨gX, 0, none⟩) (r).ents.length cX) := (HQF.out _ HS5.out).1; clear own5 grow5)
    | (refine step_append_own rfl (.tmp 18) (.tmp 25) 95 rfl (w).heap.size 148 iE (.agg #[.int .i64 0, .string ⟨#[]⟩, .int .i64 0]) 3 32 Tryz.underlying95 HIE.out.1 HIE.out.2.1 HIE.out.2.2.1 HIE.out.2.2.2 rfl (by decide) v5 (0 + k) ([] ++ T1) (by simp [Act.eval, Act.put]) HO5.out ⟨gX, (k + 1) * 3, none⟩ ((r).ents.length - (k + 1)) (cX - (k + 1)) T3 (by simp [Act.eval, Act.put]) HT3.out.1 (HT3.out.2.1 w5 HS5.out) HT3.out.2.2 (by have := hlt.out.1; unfold maxLen; omega) (by have := hlt.out.1; omega) (by have := HZ5.out; exact this) ?_; intro v6 w6 own6 grow6; obtain ⟨a6, cap6, rfl⟩ := own_formX own6; have HO6 := Lh own6; have hlo5 : ∀ j, v5.ownBlock = some j → (w).heap.size ≤ j := (fun j hj => (HO5.out.lt j hj).1); have HS6 := Lh (HS5.out.grown grow6 (by have := HZ5.out; exact this) hlo5); have C6 : w6.cell? ⟨Q.b, 3, none⟩ = some (.slice (some ⟨gX, 0, none⟩) (r).ents.length cX) := (HQF.out _ HS6.out).1; have F6 := (HQF.out _ HS6.out).2.1; have L6 := (HQF.out _ HS6.out).2.2; clear own6 grow6 hlo5))
   all_goals
    have HPX : Hid (DocAt (w6.setCell ⟨Q.b, 3, none⟩ (.slice a6 (k + ((r).ents.length - (k + 1))) cap6)) { Q with ve := .slice a6 (k + ((r).ents.length - (k + 1))) cap6 } { r with ents := (r).ents.take k ++ (r).ents.drop (k + 1) } ∧ Turns Q.O ({ Q with ve := .slice a6 (k + ((r).ents.length - (k + 1))) cap6 } : Rr).O (w) (w6.setCell ⟨Q.b, 3, none⟩ (.slice a6 (k + ((r).ents.length - (k + 1))) cap6))) := by
     have ho : w6.ownsRow 0 148 3 (.slice a6 (k + ((r).ents.length - (k + 1))) cap6) ((r).ents.take k ++ (r).ents.drop (k + 1)).length (((r).ents.take k ++ (r).ents.drop (k + 1)).flatMap reC) := by
      rw [← HE.out.1, HE.out.2]
      have h9 := own_base HO6.out (Nat.zero_le _)
      rw [List.nil_append, Nat.zero_add] at h9
      skip
      exact h9
     have hf : ∀ kk, (Value.slice a6 (k + ((r).ents.length - (k + 1))) cap6).ownBlock = some kk → (w).heap.size ≤ kk := fun j hj => (HO6.out.lt j (by first | exact hj | (rw [Nat.zero_add]; exact hj) | simpa using hj)).1
     have hp := DocAt.putE kinds3 HD.out ho ⟨HS6.out.os, HS6.out.tape, HS6.out.output, HS6.out.size, fun k hl _ => HS6.out.block k hl⟩ (.inr hf)
     exact hp.2
   all_goals
    go_wp2_with fail
    go_end0
    exact ⟨rfl, dstep HPX.out rfl⟩
end Go.Proofs.YtppdihpobokfnaaGreatDoor
set_option linter.unusedVariables false
set_option linter.unusedSimpArgs false
set_option maxRecDepth 100000
namespace Go.Proofs.YtppdihpobokfnaaGreatDoor
open Go.RowKit Go.Joins
def stE (k : Nat) (e : RE) : Bool := e.node == k
def stF (k : Nat) (x : RF) : Bool := x.n == k
theorem stE_yes {k : Nat} {e : RE} (h : stE k e = true) : ((e.node : Int) == (k : Int)) = true := by
 have := beq_iff_eq.1 (show (e.node == k) = true from h)
 rw [beq_iff_eq]; omega
theorem stE_no {k : Nat} {e : RE} (h : stE k e = false) : ((e.node : Int) == (k : Int)) = false := by
 have := beq_eq_false_iff_ne.1 (show (e.node == k) = false from h)
 rw [beq_eq_false_iff_ne]; omega
theorem stF_yes {k : Nat} {e : RF} (h : stF k e = true) : ((e.n : Int) == (k : Int)) = true := by
 have := beq_iff_eq.1 (show (e.n == k) = true from h)
 rw [beq_iff_eq]; omega
theorem stF_no {k : Nat} {e : RF} (h : stF k e = false) : ((e.n : Int) == (k : Int)) = false := by
 have := beq_eq_false_iff_ne.1 (show (e.n == k) = false from h)
 rw [beq_eq_false_iff_ne]; omega
theorem any_stepX {α : Type} (p : α → Bool) {l : List α} {j : Nat} {y : α} (h : l[j]? = some y) : (l.take (j + 1)).any p = ((l.take j).any p || p y) := by
 rw [List.take_add_one, h, List.any_append]; simp
theorem stays_is (r : RM) (k : Nat) : staysR r k = (((k : Int) == 0) || r.ents.any (stE k) || r.fds.any (stF k)) := by
 have : (k == 0) = ((k : Int) == 0) := by rw [Bool.eq_iff_iff, beq_iff_eq, beq_iff_eq]; omega
 unfold staysR
 rw [this]; rfl
theorem filter_stepX {α : Type} (p : α → Bool) {l : List α} {j : Nat} {y : α} (h : l[j]? = some y) : (l.take (j + 1)).filter p = (l.take j).filter p ++ (if p y = true then [y] else []) := by
 rw [List.take_add_one, h, List.filter_append]
 congr 1
 cases hp : p y <;> simp [hp]
set_option maxHeartbeats 16000000 in
theorem r22sweep (Q : Rr) (r : RM) (w : World) (h : DocAt w Q r) (hn : r.nodes.length ≤ 1000000) (hm : r.ents.length ≤ 1000000) (hf : r.fds.length ≤ 1000000) :
  Calls Tryz.prog 86 #[.pointer (some ⟨Q.b, 0, none⟩)] w fun e w' => e = .returned (.tuple #[]) ∧ DStep w Q w' (sweepR r) := by
 obtain ⟨iN, hi', hz0, hz1, hz2⟩ := info_parts info22N
 have HIN := Lh (And.intro hi' (And.intro hz0 (And.intro hz1 hz2)))
 have HD := Lh h
 have HLN := Lh hn
 have hn1 : (r.nodes.length : Int) ≤ 1000000 := by omega
 have hm1 : (r.ents.length : Int) ≤ 1000000 := by omega
 have hf1 : (r.fds.length : Int) ≤ 1000000 := by omega
 obtain ⟨an, cn, hvn⟩ := own_form5 h.nodes
 obtain ⟨ae, ce, hve⟩ := own_form5 h.ents
 obtain ⟨af, cf, hvf⟩ := own_form5 h.fds
 have HV2 := Lh hvn
 have HV3 := Lh hve
 have HV4 := Lh hvf
 clear hi' hz0 hz1 hz2 h hn hm hf hvn hve hvf
 go_enter Tryz.func86, Tryz.ntmps86
 go_wp2_with fail
 go_loopw [2, 3] (fun oo kk wr => ∃ (k : Nat) (ao : Option Addr) (co : Nat), k ≤ r.nodes.length ∧ oo = .slice ao ((r.nodes.take k).filter fun n => staysR r n.id).length co ∧ kk = .int .i64 (k : Int) ∧ Hid (wr.ownsRow w.heap.size 93 4 (.slice ao ((r.nodes.take k).filter fun n => staysR r n.id).length co) ((r.nodes.take k).filter fun n => staysR r n.id).length (((r.nodes.take k).filter fun n => staysR r n.id).flatMap rnC) ∧ Below w.heap.size w wr)) (fun _ kk _ => r.nodes.length - (intOf kk).toNat)
 case atStart => exact ⟨0, none, 0, by omega, rfl, rfl, Lh ⟨World.ownsRow_nil _ _ _ _, Below.refl _ _⟩⟩
 case round =>
  obtain ⟨k, ao, co, hk, rfl, rfl, HO⟩ := hrel
  have HDW := Lh (HD.out.below HO.out.2)
  obtain ⟨_, _, e2, e3, e4⟩ := HDW.out.cells
  rw [HV2.out] at e2
  rw [HV3.out] at e3
  rw [HV4.out] at e4
  have hbl := HDW.out.row.lt
  have HLL := Lh (Nat.le_trans (List.length_filter_le (fun n => staysR r n.id) (r.nodes.take k)) (List.length_take_le _ _))
  by_cases hlt : k < r.nodes.length
  · obtain ⟨x, hx⟩ : ∃ x, r.nodes[k]? = some x := ⟨_, List.getElem?_eq_getElem hlt⟩
    have HFS := Lh (filter_stepX (fun n : RN => staysR r n.id) hx)
    have HST := Lh (stays_is r x.id)
    obtain ⟨gx, cx, qx, _, c0, c1, c2, c3⟩ := HDW.out.node hx
    rw [HV2.out] at qx
    injection qx with qx _ _
    subst qx
    have k1 : (k : Int) < (r.nodes.length : Int) := by omega
    have k0 : (0 : Int) ≤ (k : Int) := by omega
    have hkk : Hid (k + 1 ≤ r.nodes.length) := hlt
    obtain ⟨b0, hb0⟩ : ∃ b, ((x.id : Int) == 0) = b := ⟨_, rfl⟩
    rw [hb0] at HST
    generalize hL : (r.nodes.take k).filter (fun n => staysR r n.id) = L at *
    clear hx hlt hL hk
    go_wp2_with fail
    go_loopw [5, 6] (fun bb jj wq => ∃ j : Nat, j ≤ r.ents.length ∧ bb = .bool (b0 || (r.ents.take j).any (stE x.id)) ∧ jj = .int .i64 (j : Int) ∧ wq = wr) (fun _ jj _ => r.ents.length - (intOf jj).toNat)
    case atStart => exact ⟨0, by omega, by simp, rfl, rfl⟩
    case round =>
     obtain ⟨j, hj, rfl, rfl, rfl⟩ := hrel
     by_cases hlt2 : j < r.ents.length
     · obtain ⟨y, hy⟩ : ∃ y, r.ents[j]? = some y := ⟨_, List.getElem?_eq_getElem hlt2⟩
       have HAN := Lh (any_stepX (stE x.id) hy)
       obtain ⟨gy, cy, qy, _, c00, c01, c02⟩ := HDW.out.ent hy
       rw [HV3.out] at qy
       injection qy with qy _ _
       subst qy
       have j1 : (j : Int) < (r.ents.length : Int) := by omega
       have j0 : (0 : Int) ≤ (j : Int) := by omega
       clear hy hlt2
       cases hB : (b0 || (r.ents.take j).any (stE x.id)) with
       | true =>
        have HN : Hid ((b0 || (r.ents.take (j + 1)).any (stE x.id)) = true) := by show _ = _; rw [HAN.out, ← Bool.or_assoc, hB]; rfl
        go_wp2_with fail
        go_roundw
        case rel => exact ⟨j + 1, by omega, by rw [HN.out], by go_num, trivial⟩
        case measure => simp [intOf] <;> omega
       | false =>
        cases hp : stE x.id y with
        | true =>
         have hq : ((y.node : Int) == (x.id : Int)) = true := stE_yes hp
         have HN : Hid ((b0 || (r.ents.take (j + 1)).any (stE x.id)) = true) := by show _ = _; rw [HAN.out, ← Bool.or_assoc, hB, hp]; rfl
         clear hp
         go_wp2_with fail
         go_roundw
         case rel => exact ⟨j + 1, by omega, by rw [HN.out], by go_num, trivial⟩
         case measure => simp [intOf] <;> omega
        | false =>
         have hq : ((y.node : Int) == (x.id : Int)) = false := stE_no hp
         have HN : Hid ((b0 || (r.ents.take (j + 1)).any (stE x.id)) = false) := by show _ = _; rw [HAN.out, ← Bool.or_assoc, hB, hp]; rfl
         clear hp
         go_wp2_with fail
         go_roundw
         case rel => exact ⟨j + 1, by omega, by rw [HN.out], by go_num, trivial⟩
         case measure => simp [intOf] <;> omega
     · obtain rfl : j = r.ents.length := by omega
       have hnl2 : ¬ ((r.ents.length : Int) < (r.ents.length : Int)) := by omega
       rw [List.take_length]
       obtain ⟨b1, hb1⟩ : ∃ b, (b0 || r.ents.any (stE x.id)) = b := ⟨_, rfl⟩
       rw [hb1] at HST ⊢
       clear hb1 hb0
       go_wp2_with fail
       go_loopw [5, 7] (fun bb jj wq => ∃ j : Nat, j ≤ r.fds.length ∧ bb = .bool (b1 || (r.fds.take j).any (stF x.id)) ∧ jj = .int .i64 (j : Int) ∧ wq = wr) (fun _ jj _ => r.fds.length - (intOf jj).toNat)
       case atStart => exact ⟨0, by omega, by simp, rfl, rfl⟩
       case round =>
        obtain ⟨j, hj, rfl, rfl, rfl⟩ := hrel
        by_cases hlt2 : j < r.fds.length
        · obtain ⟨y, hy⟩ : ∃ y, r.fds[j]? = some y := ⟨_, List.getElem?_eq_getElem hlt2⟩
          have HAN := Lh (any_stepX (stF x.id) hy)
          obtain ⟨gy, cy, qy, _, c00, c01, c02⟩ := HDW.out.fd hy
          rw [HV4.out] at qy
          injection qy with qy _ _
          subst qy
          have j1 : (j : Int) < (r.fds.length : Int) := by omega
          have j0 : (0 : Int) ≤ (j : Int) := by omega
          clear hy hlt2
          cases hB : (b1 || (r.fds.take j).any (stF x.id)) with
          | true =>
           have HN : Hid ((b1 || (r.fds.take (j + 1)).any (stF x.id)) = true) := by show _ = _; rw [HAN.out, ← Bool.or_assoc, hB]; rfl
           go_wp2_with fail
           go_roundw
           case rel => exact ⟨j + 1, by omega, by rw [HN.out], by go_num, trivial⟩
           case measure => simp [intOf] <;> omega
          | false =>
           cases hp : stF x.id y with
           | true =>
            have hq : ((y.n : Int) == (x.id : Int)) = true := stF_yes hp
            have HN : Hid ((b1 || (r.fds.take (j + 1)).any (stF x.id)) = true) := by show _ = _; rw [HAN.out, ← Bool.or_assoc, hB, hp]; rfl
            clear hp
            go_wp2_with fail
            go_roundw
            case rel => exact ⟨j + 1, by omega, by rw [HN.out], by go_num, trivial⟩
            case measure => simp [intOf] <;> omega
           | false =>
            have hq : ((y.n : Int) == (x.id : Int)) = false := stF_no hp
            have HN : Hid ((b1 || (r.fds.take (j + 1)).any (stF x.id)) = false) := by show _ = _; rw [HAN.out, ← Bool.or_assoc, hB, hp]; rfl
            clear hp
            go_wp2_with fail
            go_roundw
            case rel => exact ⟨j + 1, by omega, by rw [HN.out], by go_num, trivial⟩
            case measure => simp [intOf] <;> omega
        · obtain rfl : j = r.fds.length := by omega
          have hnl2 : ¬ ((r.fds.length : Int) < (r.fds.length : Int)) := by omega
          rw [List.take_length]
          cases hs : (b1 || r.fds.any (stF x.id)) with
          | true =>
           have HN : Hid ((r.nodes.take (k + 1)).filter (fun n => staysR r n.id) = L ++ [x]) := by show _ = _; rw [HFS.out, HST.out, hs]; rfl
           have HRX := Lh (rowAt_alloc wr #[.int .i64 (x.id : Int), .int .i64 x.kind, .bool x.pin, .string (tx x.data)] 93)
           have B1 := Lh (HO.out.2.alloc HO.out.2.size (.cells #[.int .i64 (x.id : Int), .int .i64 x.kind, .bool x.pin, .string (tx x.data)] 93))
           go_wp2_with (at_builtin; refine wpList_append_own_at _ rfl _ _ 94 rfl w.heap.size 93 iN (.agg #[.int .i64 0, .int .i64 0, .bool false, .string ⟨#[]⟩]) 4 40 Tryz.underlying94 HIN.out.1 HIN.out.2.1 HIN.out.2.2.1 HIN.out.2.2.2 rfl (by decide) _ L.length _ rfl (HO.out.1.alloc _) ⟨wr.heap.size, 0, none⟩ 1 1 [.int .i64 (x.id : Int), .int .i64 x.kind, .bool x.pin, .string (tx x.data)] rfl rfl (row_newsX HRX.out) ?c2 ?c3 ?c4 ?c5 ?_)
           case c2 => first | ((repeat' apply And.intro) <;> rfl) | (intro u hu; simp at hu; rcases hu with rfl | rfl | rfl | rfl <;> rfl)
           case c3 => have := HLL.out; have := HLN.out; have := hkk.out; unfold maxLen; omega
           case c4 => have := HLL.out; have := HLN.out; have := hkk.out; omega
           case c5 => have := HO.out.2.size; simp; omega
           intro vX wX ownX gX _ atX
           obtain ⟨aY, cY, rfl⟩ := own_formX ownX
           have HOY := Lh (And.intro ownX (B1.out.grown gX (by have := HO.out.2.size; simp; omega) (fun j hj => (HO.out.1.lt j hj).1)))
           clear ownX gX atX HRX B1
           go_wp2_with fail
           go_roundw
           case rel => exact ⟨k + 1, aY, cY, hkk.out, by rw [HN.out, List.length_append]; rfl, by go_num, by rw [HN.out, List.length_append, List.flatMap_append]; exact HOY.out⟩
           case measure => have := hkk.out; simp [intOf] <;> omega
          | false =>
           have HN : Hid ((r.nodes.take (k + 1)).filter (fun n => staysR r n.id) = L) := by show _ = _; rw [HFS.out, HST.out, hs]; simp
           go_wp2_with fail
           go_roundw
           case rel => exact ⟨k + 1, ao, co, hkk.out, by rw [HN.out], by go_num, by rw [HN.out]; exact HO.out⟩
           case measure => have := hkk.out; simp [intOf] <;> omega
  · obtain rfl : k = r.nodes.length := by omega
    rw [List.take_length] at HO
    rw [List.take_length]
    have hnl : ¬ ((r.nodes.length : Int) < (r.nodes.length : Int)) := by omega
    have hgb : w.grownBy wr Q.vn.ownBlock := ⟨HO.out.2.os, HO.out.2.tape, HO.out.2.output, HO.out.2.size, fun k hl _ => HO.out.2.block k hl⟩
    have HPX := Lh (DocAt.putN kinds3 HD.out (own_base HO.out.1 (Nat.zero_le _)) hgb (.inr (fun k hk => (HO.out.1.lt k hk).1)))
    have fX := HPX.out.1.frozen 2 (by simp)
    clear hgb
    go_wp2_with fail
    go_end0
    exact ⟨rfl, dstep HPX.out.2 rfl⟩
end Go.Proofs.YtppdihpobokfnaaGreatDoor
set_option linter.unusedVariables false
set_option linter.unusedSimpArgs false
set_option maxRecDepth 100000
namespace Go.Proofs.YtppdihpobokfnaaGreatDoor
open Go.RowKit Go.Joins
structure DMid (W : World) (O : Nat → Prop) (W' : World) (Q' : Rr) (r' : RM) : Prop where
 doc : DocAt W' Q' r'
 turn : Turns O Q'.O W W'
section
variable {w W W' W2 : World} {O : Nat → Prop} {Q Q' Q2 : Rr} {r r' r2 : RM} {c : Cl} {b : Nat}
theorem DMid.start (h : DocAt W Q r) : DMid W Q.O W Q r := ⟨h, Turns.refl _ _⟩
theorem DMid.then (h : DMid W O W' Q r) (h' : DMid W' Q.O W2 Q2 r2) : DMid W O W2 Q2 r2 := ⟨h'.doc, h.turn.trans h'.turn⟩
theorem DMid.below (h : DMid W O W' Q r) (hb : Below W'.heap.size W' W2) : DMid W O W2 Q r := ⟨h.doc.below hb, h.turn.trans (Turns.below hb)⟩
theorem DMid.alloc (h : DMid W O W' Q r) (o : Obj) : DMid W O (W'.alloc o) Q r := h.below ((Below.refl _ _).alloc (Nat.le_refl _) o)
theorem DMid.other (h : DMid w O W Q r) (hn : ¬ Q.O b) (hb : w.heap.size ≤ b) (i : Nat) (v : Value) : DMid w O (W.setCell ⟨b, i, none⟩ v) Q r := by
 have hne : ∀ k, k ≠ b → (W.setCell ⟨b, i, none⟩ v).heap[k]? = W.heap[k]? := fun k hk => Below.heap_setCell _ _ _ _ hk
 refine ⟨h.doc.same (fun k hk => hne k (fun e => hn (e ▸ hk))), h.turn.os, h.turn.tape, h.turn.output, by simpa using h.turn.size, fun k hk hl => ?_, h.turn.own⟩
 rw [hne k (by omega)]
 exact h.turn.block k hk hl
theorem DMid.row {xs : List Value} (h : DMid W Q.O W' Q' r') (hr : RowAt W b xs) (hn : ¬ Q.O b) : RowAt W' b xs ∧ ¬ Q'.O b := h.turn.row hr hn
theorem DStep.mid (h : DStep W Q W' r') : ∃ Q', Q'.b = Q.b ∧ DMid W Q.O W' Q' r' := by
 obtain ⟨Q', h1, h2, h3⟩ := h
 exact ⟨Q', h1, h2, h3⟩
structure DFr (w : World) (O : Nat → Prop) (c : Cl) (W : World) (Q : Rr) (r : RM) : Prop where
 mid : DMid w O W Q r
 call : RowAt W w.heap.size (callC c)
 ans : RowAt W (w.heap.size + 1) zeroC
 na : ¬ Q.O w.heap.size
 nz : ¬ Q.O (w.heap.size + 1)
theorem DFr.start (h : DocAt w Q r) (c : Cl) (t u : TypeId) : DFr w Q.O c ((w.alloc (.cells #[.int .i64 c.k, .string c.p, .string c.o, .int .i64 c.fd, .int .i64 c.n, .string c.d, .bool c.on] t)).alloc (.cells #[.int .i64 0, .int .i64 0, .string ⟨#[]⟩, .slice none 0 0, .int .i64 0, .int .i64 0, .int .i64 0, .bool false, .slice none 0 0, .bool false] u)) Q r := by
 have z := rowAt_alloc (w.alloc (.cells #[.int .i64 c.k, .string c.p, .string c.o, .int .i64 c.fd, .int .i64 c.n, .string c.d, .bool c.on] t)) #[.int .i64 0, .int .i64 0, .string ⟨#[]⟩, .slice none 0 0, .int .i64 0, .int .i64 0, .int .i64 0, .bool false, .slice none 0 0, .bool false] u
 rw [World.size_alloc] at z
 exact ⟨((DMid.start h).alloc _).alloc _, (rowAt_alloc w _ t).alloc _, z, fun q => by have := h.old q; omega, fun q => by have := h.old q; omega⟩
theorem DFr.then (h : DFr w O c W Q r) (h' : DMid W Q.O W' Q' r') : DFr w O c W' Q' r' :=
 ⟨h.mid.then h', (h'.row h.call h.na).1, (h'.row h.ans h.nz).1, (h'.row h.call h.na).2, (h'.row h.ans h.nz).2⟩
theorem DFr.below (h : DFr w O c W Q r) (hb : Below W.heap.size W W') : DFr w O c W' Q r :=
 ⟨h.mid.below hb, h.call.below hb h.call.lt, h.ans.below hb h.ans.lt, h.na, h.nz⟩
theorem DFr.alloc (h : DFr w O c W Q r) (o : Obj) : DFr w O c (W.alloc o) Q r := h.below ((Below.refl _ _).alloc (Nat.le_refl _) o)
theorem DFr.drewN (h : DFr w O c W Q r) (n : Nat) : DFr w O c (W.drewN n) Q r := h.below (below_drewN (Below.refl _ _) n)
theorem DFr.drew (h : DFr w O c W Q r) : DFr w O c W.drew Q r := h.drewN 1
theorem DFr.doc (h : DFr w O c W Q r) : DocAt W Q r := h.mid.doc
theorem DFr.size (h : DFr w O c W Q r) : w.heap.size + 1 < W.heap.size := h.ans.lt
end
def ListD (w : World) (Q : Rr) (W : World) (v : Value) (xs : List Value) : Prop := (xs = [] ∧ v = nilS) ∨ ∃ g cap, v = .slice (some ⟨g, 0, none⟩) xs.length cap ∧ RowAt W g xs ∧ ¬ Q.O g ∧ w.heap.size ≤ g
def OpD (w : World) (Q : Rr) (p : An × RM) (e : Ending) (w' : World) : Prop :=
 e = .returned (.agg (ansC p.1.e p.1.n (tx p.1.d) nilS p.1.st.kind p.1.st.size p.1.st.links p.1.st.pin nilS).toArray) ∧ ∃ Q', DMid w Q.O w' Q' p.2 ∧ Q'.b = Q.b
def OpDG (w : World) (Q : Rr) (p : An × RM) (e : Ending) (w' : World) : Prop :=
 ∃ ns ls, e = .returned (.agg (ansC p.1.e p.1.n (tx p.1.d) ns p.1.st.kind p.1.st.size p.1.st.links p.1.st.pin ls).toArray) ∧ ∃ Q', DMid w Q.O w' Q' p.2 ∧ Q'.b = Q.b ∧ ListD w Q' w' ns (strs (p.1.names.map tx)) ∧ ListD w Q' w' ls (p.1.lens.map (Value.int .i64))
theorem OpD.all {w w' : World} {Q : Rr} {p : An × RM} {e : Ending} (h : OpD w Q p e w') (h1 : p.1.names = []) (h2 : p.1.lens = []) : OpDG w Q p e w' := by
 obtain ⟨he, Q', hm, hb⟩ := h
 exact ⟨nilS, nilS, he, Q', hm, hb, .inl ⟨by rw [h1]; rfl, rfl⟩, .inl ⟨by rw [h2]; rfl, rfl⟩⟩
end Go.Proofs.YtppdihpobokfnaaGreatDoor
set_option linter.unusedVariables false
set_option linter.unusedSimpArgs false
set_option maxRecDepth 100000
namespace Go.Proofs.YtppdihpobokfnaaGreatDoor
open Go.RowKit Go.Joins
theorem kind_two {r : RM} {k : Nat} (h : r.kind k = 2) : ∃ x, r.nd k = some x := by
 unfold RM.kind at h
 cases hn : r.nd k with
 | none => rw [hn] at h; cases h
 | some x => exact ⟨x, rfl⟩
theorem place_facts {r : RM} (hF : RFull r) {p : Bs} (h0 : (placeR r p).2 = 0) : r.kind (placeR r p).1.dir = 2 ∧ ((placeR r p).1.node = -1 ∨ ∃ e, r.ent (placeR r p).1.dir (placeR r p).1.name = some e ∧ (placeR r p).1.node = (e.node : Int)) := by
 by_cases hz : (splitP p).2 = 0
 · rcases List.eq_nil_or_concat (splitP p).1 with hc | ⟨ps, x, hc⟩
   · exfalso
     rw [placeR, if_neg (by rw [hz]; simp), hc] at h0
     cases h0
   · rw [List.concat_eq_append] at hc
     have hs := place_snoc r ps x (p := p) (Prod.ext hc hz)
     rw [hs] at h0 ⊢
     by_cases c1 : x = [46] ∨ x = [46, 46]
     · rw [if_pos c1] at h0; cases h0
     · rw [if_neg c1] at h0 ⊢
       by_cases c2 : (leadR r 0 ps).2 ≠ 0
       · rw [if_pos c2] at h0; exact absurd h0 c2
       · rw [if_neg c2] at h0 ⊢
         by_cases c3 : r.kind (leadR r 0 ps).1 ≠ 2
         · rw [if_pos c3] at h0; cases h0
         · rw [if_neg c3]
           refine ⟨Classical.byContradiction c3, ?_⟩
           cases he : r.ent (leadR r 0 ps).1 x with
           | none => left; rfl
           | some e => right; exact ⟨e, rfl, rfl⟩
 · exfalso
   rw [placeR, if_pos hz] at h0
   exact hz h0
theorem path_there {r : RM} (hF : RFull r) (p : Bs) : ∃ x, r.nd (pathR r p).1 = some x := by
 have h0 : ∃ x, r.nd 0 = some x := by obtain ⟨x, hx, _⟩ := hF.root; exact ⟨x, hx⟩
 unfold pathR
 split
 · exact h0
 · exact leadR_there hF _ 0 h0
theorem ent_at {r : RM} {dir : Nat} {s : ByteArray} {e : RE} (h : r.ent dir (bts s) = some e) : ∃ k : Nat, firstAt (enP (dir : Int) s) r.ents = k ∧ r.ents[k]? = some e := by
 rcases ent_first r dir s with ⟨_, q⟩ | ⟨i, x, q1, q2, q3⟩
 · rw [q] at h; cases h
 · rw [q3] at h; cases h
   exact ⟨i, q1, q2⟩
set_option maxHeartbeats 8000000 in
theorem r22mkdir (Q : Rr) (r : RM) (c : Cl) (w : World) (h : DocAt w Q r) (hF : RFull r) (hp : c.p.size ≤ 100000) :
  Calls Tryz.prog 69 #[.pointer (some ⟨Q.b, 0, none⟩), .agg #[.int .i64 c.k, .string c.p, .string c.o, .int .i64 c.fd, .int .i64 c.n, .string c.d, .bool c.on]] w (OpD w Q (mkdirR r c)) := by
 obtain ⟨a, z, hq⟩ : ∃ a z, placeR r (bts c.p) = (a, z) := ⟨_, _, rfl⟩
 have HPL := Lh (fun W (hW : DocAt W Q r) => hq ▸ r22place Q r c.p hp W hW hF)
 have HQ := Lh hq
 have HF := Lh hF
 have HFA := Lh (fun (h0 : z = 0) => by have := place_facts hF (p := bts c.p) (by rw [hq]; exact h0); rw [hq] at this; exact this)
 unfold plT at HPL
 clear hq hF
 have F0 := DFr.start h c 36 33
 clear h
 go_enter Tryz.func69, Tryz.ntmps69
 go_upto_region 1 with fail
 generalize (w.alloc (.cells #[.int .i64 c.k, .string c.p, .string c.o, .int .i64 c.fd, .int .i64 c.n, .string c.d, .bool c.on] 36)).alloc (.cells #[.int .i64 0, .int .i64 0, .string ⟨#[]⟩, .slice none 0 0, .int .i64 0, .int .i64 0, .int .i64 0, .bool false, .slice none 0 0, .bool false] 33) = W1 at *
 have F1 := Lh F0
 clear F0
 obtain ⟨a0, a1, a2, a3, a4, a5, a6⟩ := row7_cells F1.out.call
 go_wp2_with fail
 refine (HPL.out _ F1.out.doc).mono ?_
 rintro e W2 ⟨rfl, hb⟩
 have F2 := Lh (F1.out.below hb)
 clear hb F1 a0 a1 a2 a3 a4 a5 a6
 have hsz := F2.out.size
 by_cases hz : z = 0
 · subst hz
   obtain ⟨hk2, hnode⟩ := HFA.out rfl
   by_cases hn : 0 ≤ a.node
   · have HR := Lh (show mkdirR r c = (failA 211, r) from by rw [mkdirR, HQ.out]; simp [hn])
     clear hk2 hnode
     go_wp2_with fail
     refine (r22fail _ _).mono ?_
     rintro e WF ⟨rfl, hb⟩
     have F3 := Lh (F2.out.below hb)
     clear hb F2
     obtain ⟨_, _, _, _, _, _, _, _, _, _, _, _, _, _, _, _, _, _, _, _⟩ := row10_all F3.out.ans
     unfold failV anV Stt.zero
     go_wp2_with fail
     refine fin10 Tryz.results69 rfl rfl F3.out.ans ?_
     · unfold OpD
       rw [HR.out]
       refine ⟨rfl, Q, ?_, rfl⟩
       repeat (refine DMid.other ?_ F3.out.nz (by omega) _ _)
       exact F3.out.mid
   · obtain ⟨xd, hxd⟩ := kind_two hk2
     have HL := Lh (fun W (hW : DocAt W Q r) => r22links Q r a.dir xd W hW HF.out.nodes HF.out.ents hxd HF.out.enode)
     clear hk2 hnode hxd
     by_cases hl : 100 ≤ r.links a.dir
     · have HR := Lh (show mkdirR r c = (failA 215, r) from by rw [mkdirR, HQ.out]; simp [hn, hl])
       go_wp2_with fail
       refine (HL.out _ F2.out.doc).mono ?_
       rintro e W3 ⟨rfl, m3, rfl⟩
       have F3 := Lh (F2.out.drewN m3)
       clear F2
       go_wp2_with fail
       refine (r22fail _ _).mono ?_
       rintro e WF ⟨rfl, hb⟩
       have F4 := Lh (F3.out.below hb)
       clear hb F3
       obtain ⟨_, _, _, _, _, _, _, _, _, _, _, _, _, _, _, _, _, _, _, _⟩ := row10_all F4.out.ans
       unfold failV anV Stt.zero
       go_wp2_with fail
       refine fin10 Tryz.results69 rfl rfl F4.out.ans ?_
       · unfold OpD
         rw [HR.out]
         refine ⟨rfl, Q, ?_, rfl⟩
         repeat (refine DMid.other ?_ F4.out.nz (by omega) _ _)
         exact F4.out.mid
     · have HMK := Lh (fun W (hW : DocAt W Q r) => r22make1 Q r a 2 (tx a.name) (tx_bts _) W hW HF.out.nodes HF.out.ents HF.out.next HF.out.limit)
       obtain ⟨y, hy⟩ : ∃ y, make1R r a 2 = y := ⟨_, rfl⟩
       have HR := Lh (show mkdirR r c = (failA y.1.2, y.2) from by rw [mkdirR, HQ.out]; simp [hn, hl, hy])
       rw [hy] at HMK
       clear hy
       obtain ⟨⟨yi, ye⟩, yr⟩ := y
       simp only at HR HMK
       go_wp2_with fail
       refine (HL.out _ F2.out.doc).mono ?_
       rintro e W3 ⟨rfl, m3, rfl⟩
       have F3 := Lh (F2.out.drewN m3)
       clear F2
       go_wp2_with fail
       refine (HMK.out _ F3.out.doc).mono ?_
       rintro e W4 ⟨rfl, hds⟩
       obtain ⟨Q4, hQ4, hm4⟩ := hds.mid
       have HQ4 := Lh hQ4
       have F4 := Lh (F3.out.then hm4)
       clear hds hm4 F3 hQ4 hsz
       have hsz := F4.out.size
       go_wp2_with fail
       refine (r22fail _ _).mono ?_
       rintro e WF ⟨rfl, hb⟩
       have F5 := Lh (F4.out.below hb)
       clear hb F4
       obtain ⟨_, _, _, _, _, _, _, _, _, _, _, _, _, _, _, _, _, _, _, _⟩ := row10_all F5.out.ans
       unfold failV anV Stt.zero
       go_wp2_with fail
       refine fin10 Tryz.results69 rfl rfl F5.out.ans ?_
       · unfold OpD
         rw [HR.out]
         refine ⟨rfl, Q4, ?_, HQ4.out⟩
         repeat (refine DMid.other ?_ F5.out.nz (by omega) _ _)
         exact F5.out.mid
 · have HR := Lh (show mkdirR r c = (failA z, r) from by rw [mkdirR, HQ.out]; simp [hz])
   have q1 : (z != 0) = true := by rw [bne_iff_ne]; exact hz
   clear hz
   go_wp2_with fail
   refine (r22fail _ _).mono ?_
   rintro e WF ⟨rfl, hb⟩
   have F3 := Lh (F2.out.below hb)
   clear hb F2
   obtain ⟨_, _, _, _, _, _, _, _, _, _, _, _, _, _, _, _, _, _, _, _⟩ := row10_all F3.out.ans
   unfold failV anV Stt.zero
   go_wp2_with fail
   refine fin10 Tryz.results69 rfl rfl F3.out.ans ?_
   · unfold OpD
     rw [HR.out]
     refine ⟨rfl, Q, ?_, rfl⟩
     repeat (refine DMid.other ?_ F3.out.nz (by omega) _ _)
     exact F3.out.mid
end Go.Proofs.YtppdihpobokfnaaGreatDoor
set_option linter.unusedVariables false
set_option linter.unusedSimpArgs false
set_option maxRecDepth 100000
namespace Go.Proofs.YtppdihpobokfnaaGreatDoor
open Go.RowKit Go.Joins
set_option maxHeartbeats 8000000 in
theorem r22remove (Q : Rr) (r : RM) (c : Cl) (w : World) (h : DocAt w Q r) (hF : RFull r) (hp : c.p.size ≤ 100000) (hc : c.k = 8 ∨ c.k = 10) :
  Calls Tryz.prog 70 #[.pointer (some ⟨Q.b, 0, none⟩), .agg #[.int .i64 c.k, .string c.p, .string c.o, .int .i64 c.fd, .int .i64 c.n, .string c.d, .bool c.on]] w (OpD w Q (removeR r c)) := by
 obtain ⟨⟨ad, an, asn⟩, z, hq⟩ : ∃ a z, placeR r (bts c.p) = (a, z) := ⟨_, _, rfl⟩
 have HPL := Lh (fun W (hW : DocAt W Q r) => hq ▸ r22place Q r c.p hp W hW hF)
 have HQ := Lh hq
 have HF := Lh hF
 have HFA := Lh (fun (h0 : z = 0) => by have := place_facts hF (p := bts c.p) (by rw [hq]; exact h0); rw [hq] at this; exact this)
 have HC := Lh hc
 unfold plT at HPL
 simp only at HPL HFA
 clear hq hF hc
 have F0 := DFr.start h c 36 33
 clear h
 go_enter Tryz.func70, Tryz.ntmps70
 go_upto_region 1 with fail
 generalize (w.alloc (.cells #[.int .i64 c.k, .string c.p, .string c.o, .int .i64 c.fd, .int .i64 c.n, .string c.d, .bool c.on] 36)).alloc (.cells #[.int .i64 0, .int .i64 0, .string ⟨#[]⟩, .slice none 0 0, .int .i64 0, .int .i64 0, .int .i64 0, .bool false, .slice none 0 0, .bool false] 33) = W1 at *
 have F1 := Lh F0
 clear F0
 obtain ⟨a0, a1, a2, a3, a4, a5, a6⟩ := row7_cells F1.out.call
 go_wp2_with fail
 refine (HPL.out _ F1.out.doc).mono ?_
 rintro e W2 ⟨rfl, hb⟩
 have F2 := Lh (F1.out.below hb)
 clear hb F1 a0 a1 a2 a3 a4 a5 a6
 have hsz := F2.out.size
 by_cases hz : z = 0
 · subst hz
   obtain ⟨hk2, hnode⟩ := HFA.out rfl
   rcases hnode with rfl | ⟨e, he, rfl⟩
   · have HR := Lh (show removeR r c = (failA 210, r) from by rw [removeR, HQ.out]; simp)
     clear hk2
     go_wp2_with fail
     refine (r22fail _ _).mono ?_
     rintro e WF ⟨rfl, hb⟩
     have F3 := Lh (F2.out.below hb)
     clear hb F2
     obtain ⟨_, _, _, _, _, _, _, _, _, _, _, _, _, _, _, _, _, _, _, _⟩ := row10_all F3.out.ans
     unfold failV anV Stt.zero
     go_wp2_with fail
     refine fin10 Tryz.results70 rfl rfl F3.out.ans ?_
     · unfold OpD
       rw [HR.out]
       refine ⟨rfl, Q, ?_, rfl⟩
       repeat (refine DMid.other ?_ F3.out.nz (by omega) _ _)
       exact F3.out.mid
   · obtain ⟨k, hk1, hkk⟩ := ent_at (s := tx asn) (by rw [tx_bts]; exact he)
     have HEA := Lh (And.intro hk1 hkk)
     obtain ⟨xn, hxn⟩ := HF.out.enode e (List.mem_of_getElem? hkk)
     have HK := Lh (fun W (hW : DocAt W Q r) => r22kind Q r e.node xn W hW HF.out.nodes hxn)
     have HSZ := Lh (fun W (hW : DocAt W Q r) => r22size Q r e.node xn W hW HF.out.nodes HF.out.ents hxn)
     have hng : ¬ (e.node : Int) < 0 := by omega
     clear hk1 hkk hxn hk2 he
     by_cases hd : r.kind e.node = 2
     · have q2 : (r.kind e.node == 2) = true := by simpa using hd
       have HDD := Lh hd
       rcases HC.out with hc | hc
       · have HCC := Lh hc
         by_cases hs : 0 < r.size e.node
         · have HR := Lh (show removeR r c = (failA 214, r) from by rw [removeR, HQ.out]; simp [hng, hc, hd, hs])
           clear hc hd
           go_wp2_with fail
           refine (HK.out _ F2.out.doc).mono ?_
           rintro e W3 ⟨rfl, m3, rfl⟩
           have F3 := Lh (F2.out.drewN m3)
           clear F2
           generalize World.drewN _ m3 = W3g at *
           obtain ⟨a0, a1, a2, a3, a4, a5, a6⟩ := row7_cells F3.out.call
           rw [HCC.out] at a0
           clear a1 a2 a3 a4 a5 a6
           go_wp2_with fail
           refine (HSZ.out _ F3.out.doc).mono ?_
           rintro e W4 ⟨rfl, m4, rfl⟩
           have F4 := Lh (F3.out.drewN m4)
           clear F3
           generalize World.drewN _ m4 = W4g at *
           clear a0 HK HSZ q2
           go_wp2_with fail
           refine (r22fail _ _).mono ?_
           rintro e WF ⟨rfl, hb⟩
           have F5 := Lh (F4.out.below hb)
           clear hb F4
           obtain ⟨_, _, _, _, _, _, _, _, _, _, _, _, _, _, _, _, _, _, _, _⟩ := row10_all F5.out.ans
           unfold failV anV Stt.zero
           go_wp2_with fail
           refine fin10 Tryz.results70 rfl rfl F5.out.ans ?_
           · unfold OpD
             rw [HR.out]
             refine ⟨rfl, Q, ?_, rfl⟩
             repeat (refine DMid.other ?_ F5.out.nz (by omega) _ _)
             exact F5.out.mid
         · have HR := Lh (show removeR r c = (An.zero, sweepR (unnameR r ad asn)) from by rw [removeR, HQ.out]; simp [hng, hc, hd, hs])
           clear hc hd
           go_wp2_with fail
           refine (HK.out _ F2.out.doc).mono ?_
           rintro e W3 ⟨rfl, m3, rfl⟩
           have F3 := Lh (F2.out.drewN m3)
           clear F2
           generalize World.drewN _ m3 = W3g at *
           obtain ⟨a0, a1, a2, a3, a4, a5, a6⟩ := row7_cells F3.out.call
           rw [HCC.out] at a0
           clear a1 a2 a3 a4 a5 a6
           go_wp2_with fail
           refine (HSZ.out _ F3.out.doc).mono ?_
           rintro e W4 ⟨rfl, m4, rfl⟩
           have F4 := Lh (F3.out.drewN m4)
           clear F3
           generalize World.drewN _ m4 = W4g at *
           clear a0 HK HSZ q2
           have HUN := Lh (fun W (hW : DocAt W Q r) => r22unname Q r ad (tx asn) k e W hW HF.out.ents HEA.out.1 HEA.out.2)
           rw [tx_bts] at HUN
           have HLN := Lh (show (unnameR r ad asn).ents.length ≤ 1000000 from Nat.le_trans (List.length_eraseP_le) HF.out.ents)
           go_wp2_with fail
           refine (HUN.out _ F4.out.doc).mono ?_
           rintro e WU ⟨rfl, hds⟩
           obtain ⟨QU, hQU, hmU⟩ := hds.mid
           have HQU := Lh hQU
           have FU := Lh (F4.out.then hmU)
           have HSW := Lh (r22sweep QU (unnameR r ad asn) WU hmU.doc HF.out.nodes HLN.out (by have := HF.out.fds; show r.fds.length ≤ 1000000; omega))
           rw [show QU.b = Q.b from hQU] at HSW
           clear hds hmU F4 hQU hsz HUN
           go_wp2_with fail
           refine HSW.out.mono ?_
           rintro e WV ⟨rfl, hds⟩
           obtain ⟨QV, hQV, hmV⟩ := hds.mid
           have HQV := Lh (hQV.trans HQU.out)
           have FV := Lh (FU.out.then hmV)
           clear hds hmV FU hQV HSW
           have hsz := FV.out.size
           obtain ⟨_, _, _, _, _, _, _, _, _, _, _, _, _, _, _, _, _, _, _, _⟩ := row10_all FV.out.ans
           go_wp2_with fail
           refine fin10 Tryz.results70 rfl rfl FV.out.ans ?_
           · unfold OpD
             rw [HR.out]
             refine ⟨rfl, QV, ?_, HQV.out⟩
             repeat (refine DMid.other ?_ FV.out.nz (by omega) _ _)
             exact FV.out.mid
       · have HCC := Lh hc
         have HR := Lh (show removeR r c = (failA 213, r) from by rw [removeR, HQ.out]; simp [hng, hc, hd])
         clear hc hd
         go_wp2_with fail
         refine (HK.out _ F2.out.doc).mono ?_
         rintro e W3 ⟨rfl, m3, rfl⟩
         have F3 := Lh (F2.out.drewN m3)
         clear F2
         generalize World.drewN _ m3 = W3g at *
         obtain ⟨a0, a1, a2, a3, a4, a5, a6⟩ := row7_cells F3.out.call
         rw [HCC.out] at a0
         clear a1 a2 a3 a4 a5 a6
         clear HK HSZ
         go_wp2_with fail
         refine (r22fail _ _).mono ?_
         rintro e WF ⟨rfl, hb⟩
         have F5 := Lh (F3.out.below hb)
         clear hb F3
         obtain ⟨_, _, _, _, _, _, _, _, _, _, _, _, _, _, _, _, _, _, _, _⟩ := row10_all F5.out.ans
         unfold failV anV Stt.zero
         go_wp2_with fail
         refine fin10 Tryz.results70 rfl rfl F5.out.ans ?_
         · unfold OpD
           rw [HR.out]
           refine ⟨rfl, Q, ?_, rfl⟩
           repeat (refine DMid.other ?_ F5.out.nz (by omega) _ _)
           exact F5.out.mid
     · have q2 : (r.kind e.node == 2) = false := by simpa using hd
       rcases HC.out with hc | hc
       · have HCC := Lh hc
         have HR := Lh (show removeR r c = (failA 212, r) from by rw [removeR, HQ.out]; simp [hng, hc, hd])
         clear hc hd
         go_wp2_with fail
         refine (HK.out _ F2.out.doc).mono ?_
         rintro e W3 ⟨rfl, m3, rfl⟩
         have F3 := Lh (F2.out.drewN m3)
         clear F2
         generalize World.drewN _ m3 = W3g at *
         obtain ⟨a0, a1, a2, a3, a4, a5, a6⟩ := row7_cells F3.out.call
         rw [HCC.out] at a0
         clear a1 a2 a3 a4 a5 a6
         clear HK HSZ
         go_wp2_with fail
         refine (r22fail _ _).mono ?_
         rintro e WF ⟨rfl, hb⟩
         have F5 := Lh (F3.out.below hb)
         clear hb F3
         obtain ⟨_, _, _, _, _, _, _, _, _, _, _, _, _, _, _, _, _, _, _, _⟩ := row10_all F5.out.ans
         unfold failV anV Stt.zero
         go_wp2_with fail
         refine fin10 Tryz.results70 rfl rfl F5.out.ans ?_
         · unfold OpD
           rw [HR.out]
           refine ⟨rfl, Q, ?_, rfl⟩
           repeat (refine DMid.other ?_ F5.out.nz (by omega) _ _)
           exact F5.out.mid
       · have HCC := Lh hc
         have HR := Lh (show removeR r c = (An.zero, sweepR (unnameR r ad asn)) from by rw [removeR, HQ.out]; simp [hng, hc, hd])
         clear hc hd
         go_wp2_with fail
         refine (HK.out _ F2.out.doc).mono ?_
         rintro e W3 ⟨rfl, m3, rfl⟩
         have F3 := Lh (F2.out.drewN m3)
         clear F2
         generalize World.drewN _ m3 = W3g at *
         obtain ⟨a0, a1, a2, a3, a4, a5, a6⟩ := row7_cells F3.out.call
         rw [HCC.out] at a0
         clear a1 a2 a3 a4 a5 a6
         clear HK HSZ
         have HUN := Lh (fun W (hW : DocAt W Q r) => r22unname Q r ad (tx asn) k e W hW HF.out.ents HEA.out.1 HEA.out.2)
         rw [tx_bts] at HUN
         have HLN := Lh (show (unnameR r ad asn).ents.length ≤ 1000000 from Nat.le_trans (List.length_eraseP_le) HF.out.ents)
         go_wp2_with fail
         refine (HUN.out _ F3.out.doc).mono ?_
         rintro e WU ⟨rfl, hds⟩
         obtain ⟨QU, hQU, hmU⟩ := hds.mid
         have HQU := Lh hQU
         have FU := Lh (F3.out.then hmU)
         have HSW := Lh (r22sweep QU (unnameR r ad asn) WU hmU.doc HF.out.nodes HLN.out (by have := HF.out.fds; show r.fds.length ≤ 1000000; omega))
         rw [show QU.b = Q.b from hQU] at HSW
         clear hds hmU F3 hQU hsz HUN
         go_wp2_with fail
         refine HSW.out.mono ?_
         rintro e WV ⟨rfl, hds⟩
         obtain ⟨QV, hQV, hmV⟩ := hds.mid
         have HQV := Lh (hQV.trans HQU.out)
         have FV := Lh (FU.out.then hmV)
         clear hds hmV FU hQV HSW
         have hsz := FV.out.size
         obtain ⟨_, _, _, _, _, _, _, _, _, _, _, _, _, _, _, _, _, _, _, _⟩ := row10_all FV.out.ans
         go_wp2_with fail
         refine fin10 Tryz.results70 rfl rfl FV.out.ans ?_
         · unfold OpD
           rw [HR.out]
           refine ⟨rfl, QV, ?_, HQV.out⟩
           repeat (refine DMid.other ?_ FV.out.nz (by omega) _ _)
           exact FV.out.mid
 · have HR := Lh (show removeR r c = (failA z, r) from by rw [removeR, HQ.out]; simp [hz])
   have q1 : (z != 0) = true := by rw [bne_iff_ne]; exact hz
   clear hz
   go_wp2_with fail
   refine (r22fail _ _).mono ?_
   rintro e WF ⟨rfl, hb⟩
   have F3 := Lh (F2.out.below hb)
   clear hb F2
   obtain ⟨_, _, _, _, _, _, _, _, _, _, _, _, _, _, _, _, _, _, _, _⟩ := row10_all F3.out.ans
   unfold failV anV Stt.zero
   go_wp2_with fail
   refine fin10 Tryz.results70 rfl rfl F3.out.ans ?_
   · unfold OpD
     rw [HR.out]
     refine ⟨rfl, Q, ?_, rfl⟩
     repeat (refine DMid.other ?_ F3.out.nz (by omega) _ _)
     exact F3.out.mid
set_option maxHeartbeats 8000000 in
theorem r22link (Q : Rr) (r : RM) (c : Cl) (w : World) (h : DocAt w Q r) (hF : RFull r) (hp : c.p.size ≤ 100000) (ho : c.o.size ≤ 100000) :
  Calls Tryz.prog 71 #[.pointer (some ⟨Q.b, 0, none⟩), .agg #[.int .i64 c.k, .string c.p, .string c.o, .int .i64 c.fd, .int .i64 c.n, .string c.d, .bool c.on]] w (OpD w Q (lnkR r c)) := by
 obtain ⟨k, y, hq1⟩ : ∃ k y, pathR r (bts c.p) = (k, y) := ⟨_, _, rfl⟩
 obtain ⟨⟨ad, an, asn⟩, z, hq⟩ : ∃ a z, placeR r (bts c.o) = (a, z) := ⟨_, _, rfl⟩
 have HPA := Lh (fun W (hW : DocAt W Q r) => hq1 ▸ r22path Q r c.p hp W hW hF)
 have HPL := Lh (fun W (hW : DocAt W Q r) => hq ▸ r22place Q r c.o ho W hW hF)
 have HQ := Lh hq
 have HQ1 := Lh hq1
 have HF := Lh hF
 have HFA := Lh (fun (h0 : z = 0) => by have := place_facts hF (p := bts c.o) (by rw [hq]; exact h0); rw [hq] at this; exact this)
 have HTH := Lh (show ∃ x, r.nd k = some x from by have := path_there hF (bts c.p); rw [hq1] at this; exact this)
 unfold plT at HPL
 simp only at HPL HFA HPA
 obtain ⟨xk, hxk⟩ := HTH.out
 have HK := Lh (fun W (hW : DocAt W Q r) => r22kind Q r k xk W hW hF.nodes hxk)
 have HLK := Lh (fun W (hW : DocAt W Q r) => r22links Q r k xk W hW hF.nodes hF.ents hxk hF.enode)
 obtain ⟨iE, hi', hz0, hz1, hz2⟩ := info_parts info22E
 have HIE := Lh (And.intro hi' (And.intro hz0 (And.intro hz1 hz2)))
 have HLE := Lh hF.ents
 clear hq hq1 hF hxk hi' hz0 hz1 hz2
 have F0 := DFr.start h c 36 33
 clear h
 go_enter Tryz.func71, Tryz.ntmps71
 go_upto_region 1 with fail
 generalize (w.alloc (.cells #[.int .i64 c.k, .string c.p, .string c.o, .int .i64 c.fd, .int .i64 c.n, .string c.d, .bool c.on] 36)).alloc (.cells #[.int .i64 0, .int .i64 0, .string ⟨#[]⟩, .slice none 0 0, .int .i64 0, .int .i64 0, .int .i64 0, .bool false, .slice none 0 0, .bool false] 33) = W1 at *
 have F1 := Lh F0
 clear F0
 obtain ⟨a0, a1, a2, a3, a4, a5, a6⟩ := row7_cells F1.out.call
 go_wp2_with fail
 refine (HPA.out _ F1.out.doc).mono ?_
 rintro e W2 ⟨rfl, hb⟩
 have F2 := Lh (F1.out.below hb)
 clear hb F1 a0 a1 a2 a3 a4 a5 a6
 have hsz := F2.out.size
 by_cases hy : y = 0
 · subst hy
   by_cases hd : r.kind k = 2
   · have q2 : (r.kind k == 2) = true := by simpa using hd
     have HR := Lh (show lnkR r c = (failA 213, r) from by rw [lnkR, HQ1.out]; simp [hd])
     clear hd
     go_wp2_with fail
     refine (HK.out _ F2.out.doc).mono ?_
     rintro e W3 ⟨rfl, m3, rfl⟩
     have F3 := Lh (F2.out.drewN m3)
     clear F2
     generalize World.drewN _ m3 = W3g at *
     go_wp2_with fail
     refine (r22fail _ _).mono ?_
     rintro e WF ⟨rfl, hb⟩
     have F5 := Lh (F3.out.below hb)
     clear hb F3
     obtain ⟨_, _, _, _, _, _, _, _, _, _, _, _, _, _, _, _, _, _, _, _⟩ := row10_all F5.out.ans
     unfold failV anV Stt.zero
     go_wp2_with fail
     refine fin10 Tryz.results71 rfl rfl F5.out.ans ?_
     · unfold OpD
       rw [HR.out]
       refine ⟨rfl, Q, ?_, rfl⟩
       repeat (refine DMid.other ?_ F5.out.nz (by omega) _ _)
       exact F5.out.mid
   · have q2 : (r.kind k == 2) = false := by simpa using hd
     have HND := Lh hd
     clear hd
     go_wp2_with fail
     refine (HK.out _ F2.out.doc).mono ?_
     rintro e W3 ⟨rfl, m3, rfl⟩
     have F3 := Lh (F2.out.drewN m3)
     clear F2
     generalize World.drewN _ m3 = W3g at *
     obtain ⟨a0, a1, a2, a3, a4, a5, a6⟩ := row7_cells F3.out.call
     go_wp2_with fail
     refine (HPL.out _ F3.out.doc).mono ?_
     rintro e W4 ⟨rfl, hb⟩
     have F4 := Lh (F3.out.below hb)
     clear hb F3 a0 a1 a2 a3 a4 a5 a6 HK hsz
     have hsz := F4.out.size
     by_cases hz : z = 0
     · subst hz
       obtain ⟨hk2, hnode⟩ := HFA.out rfl
       rcases hnode with rfl | ⟨e, he, rfl⟩
       · by_cases hl : 100 ≤ r.links k
         · have HR := Lh (show lnkR r c = (failA 215, r) from by rw [lnkR, HQ1.out, HQ.out]; simp [HND.out, hl])
           clear hk2
           go_wp2_with fail
           refine (HLK.out _ F4.out.doc).mono ?_
           rintro e W5 ⟨rfl, m5, rfl⟩
           have F5 := Lh (F4.out.drewN m5)
           clear F4
           generalize World.drewN _ m5 = W5g at *
           go_wp2_with fail
           refine (r22fail _ _).mono ?_
           rintro e WF ⟨rfl, hb⟩
           have F6 := Lh (F5.out.below hb)
           clear hb F5
           obtain ⟨_, _, _, _, _, _, _, _, _, _, _, _, _, _, _, _, _, _, _, _⟩ := row10_all F6.out.ans
           unfold failV anV Stt.zero
           go_wp2_with fail
           refine fin10 Tryz.results71 rfl rfl F6.out.ans ?_
           · unfold OpD
             rw [HR.out]
             refine ⟨rfl, Q, ?_, rfl⟩
             repeat (refine DMid.other ?_ F6.out.nz (by omega) _ _)
             exact F6.out.mid
         · have HR := Lh (show lnkR r c = (An.zero, { r with ents := r.ents ++ [⟨ad, asn, k⟩] }) from by rw [lnkR, HQ1.out, HQ.out]; simp [HND.out, hl])
           clear hk2
           go_wp2_with fail
           refine (HLK.out _ F4.out.doc).mono ?_
           rintro e W5 ⟨rfl, m5, rfl⟩
           have F5 := Lh (F4.out.drewN m5)
           clear F4
           generalize World.drewN _ m5 = W5g at *
           have HDA := Lh F5.out.doc
           obtain ⟨_, _, e2, e3, e4⟩ := HDA.out.cells
           obtain ⟨aX, cX, hvX⟩ := own_form5 HDA.out.ents
           have hbl := HDA.out.row.lt
           rw [hvX] at e3
           have HVX := Lh hvX
           have HOX := Lh (show (W5g).ownsRow 0 148 3 (.slice aX (r).ents.length cX) (r).ents.length ((r).ents.flatMap reC) from by have := HDA.out.ents; rw [hvX] at this; exact this)
           have HRX := Lh (rowAt_alloc (W5g) #[.int .i64 (ad : Int), .string (tx asn), .int .i64 (k : Int)] 148)
           clear hvX
           go_wp2_with (at_builtin; refine wpList_append_own_at _ rfl _ _ 95 rfl 0 148 iE (.agg #[.int .i64 0, .string ⟨#[]⟩, .int .i64 0]) 3 32 Tryz.underlying95 HIE.out.1 HIE.out.2.1 HIE.out.2.2.1 HIE.out.2.2.2 rfl (by decide) _ (r).ents.length _ rfl (HOX.out.alloc _) ⟨(W5g).heap.size, 0, none⟩ 1 1 [.int .i64 (ad : Int), .string (tx asn), .int .i64 (k : Int)] rfl rfl (row_newsX HRX.out) ?c2 ?c3 ?c4 (Nat.zero_le _) ?_)
           case c2 => first | ((repeat' apply And.intro) <;> rfl) | (intro u hu; simp at hu; rcases hu with rfl | rfl | rfl <;> rfl)
           case c3 => have := HLE.out; unfold maxLen; omega
           case c4 => have := HLE.out; omega
           intro vX wX ownX gX _ atX
           obtain ⟨aY, cY, rfl⟩ := own_formX ownX
           have HPX := Lh (DocAt.putE kinds3 (HDA.out.alloc (.cells #[.int .i64 (ad : Int), .string (tx asn), .int .i64 (k : Int)] 148)) (l := (r).ents ++ [⟨ad, asn, k⟩]) (by rw [List.length_append, List.flatMap_append]; have := ownX; first | exact this | (simp only [reC, rnC, rfC, List.flatMap_cons, List.flatMap_nil, List.append_nil, List.length_cons, List.length_nil] at *; (try rw [← HS.out, tx_back]); exact this)) (by rw [HVX.out]; exact gX) (by rw [HVX.out]; rcases atX with q | q; exact .inl q; exact .inr (fun k hk => by rw [q] at hk; cases hk; simp)))
           have fX := HPX.out.1.frozen 3 (by simp)
           have cX' := HPX.out.1.cell 3 (by simp)
           have lX := HPX.out.1.lt
           have HD2 := Lh (And.intro HPX.out.2.1 ((Turns.below ((Below.refl (W5g).heap.size (W5g)).alloc (Nat.le_refl _) (.cells #[.int .i64 (ad : Int), .string (tx asn), .int .i64 (k : Int)] 148))).trans HPX.out.2.2))
           clear ownX gX atX HPX HRX HOX e2 e3 e4 hbl
           have hsz5 := F5.out.size
           go_upto_region 14 with fail
           have hDX := HD2.out
           generalize hQY : (Rr.mk Q.b Q.vn _ Q.vf) = Q2 at hDX
           have hQX : Q2.b = Q.b := by rw [← hQY]
           have HD3 : Hid (DocAt _ Q2 ({ r with ents := r.ents ++ [⟨ad, asn, k⟩] }) ∧ Turns Q.O Q2.O (W5g) _) := hDX
           clear hQY
           clear hDX HD2 fX cX' lX HVX
           try clear HOX
           generalize World.setCell _ _ _ = W6 at *
           rw [← hQX]
           have HQ2 := Lh hQX
           clear hQX
           have FV := Lh (F5.out.then ⟨HD3.out.1, HD3.out.2⟩)
           clear F5 hsz hsz5
           have hsz := FV.out.size
           obtain ⟨_, _, _, _, _, _, _, _, _, _, _, _, _, _, _, _, _, _, _, _⟩ := row10_all FV.out.ans
           go_wp2_with fail
           refine fin10 Tryz.results71 rfl rfl FV.out.ans ?_
           · unfold OpD
             rw [HR.out]
             refine ⟨rfl, Q2, ?_, HQ2.out⟩
             repeat (refine DMid.other ?_ FV.out.nz (by omega) _ _)
             exact FV.out.mid
       · have HR := Lh (show lnkR r c = (failA 211, r) from by rw [lnkR, HQ1.out, HQ.out]; simp [HND.out])
         have hng : (0 : Int) ≤ (e.node : Int) := by omega
         clear hk2 he
         go_wp2_with fail
         refine (r22fail _ _).mono ?_
         rintro e WF ⟨rfl, hb⟩
         have F6 := Lh (F4.out.below hb)
         clear hb F4
         obtain ⟨_, _, _, _, _, _, _, _, _, _, _, _, _, _, _, _, _, _, _, _⟩ := row10_all F6.out.ans
         unfold failV anV Stt.zero
         go_wp2_with fail
         refine fin10 Tryz.results71 rfl rfl F6.out.ans ?_
         · unfold OpD
           rw [HR.out]
           refine ⟨rfl, Q, ?_, rfl⟩
           repeat (refine DMid.other ?_ F6.out.nz (by omega) _ _)
           exact F6.out.mid
     · have HR := Lh (show lnkR r c = (failA z, r) from by rw [lnkR, HQ1.out, HQ.out]; simp [HND.out, hz])
       have q1 : (z != 0) = true := by rw [bne_iff_ne]; exact hz
       clear hz
       go_wp2_with fail
       refine (r22fail _ _).mono ?_
       rintro e WF ⟨rfl, hb⟩
       have F6 := Lh (F4.out.below hb)
       clear hb F4
       obtain ⟨_, _, _, _, _, _, _, _, _, _, _, _, _, _, _, _, _, _, _, _⟩ := row10_all F6.out.ans
       unfold failV anV Stt.zero
       go_wp2_with fail
       refine fin10 Tryz.results71 rfl rfl F6.out.ans ?_
       · unfold OpD
         rw [HR.out]
         refine ⟨rfl, Q, ?_, rfl⟩
         repeat (refine DMid.other ?_ F6.out.nz (by omega) _ _)
         exact F6.out.mid
 · have HR := Lh (show lnkR r c = (failA y, r) from by rw [lnkR, HQ1.out]; simp [hy])
   have q1 : (y != 0) = true := by rw [bne_iff_ne]; exact hy
   clear hy
   go_wp2_with fail
   refine (r22fail _ _).mono ?_
   rintro e WF ⟨rfl, hb⟩
   have F6 := Lh (F2.out.below hb)
   clear hb F2
   obtain ⟨_, _, _, _, _, _, _, _, _, _, _, _, _, _, _, _, _, _, _, _⟩ := row10_all F6.out.ans
   unfold failV anV Stt.zero
   go_wp2_with fail
   refine fin10 Tryz.results71 rfl rfl F6.out.ans ?_
   · unfold OpD
     rw [HR.out]
     refine ⟨rfl, Q, ?_, rfl⟩
     repeat (refine DMid.other ?_ F6.out.nz (by omega) _ _)
     exact F6.out.mid
end Go.Proofs.YtppdihpobokfnaaGreatDoor
