/- A part of a proof. -/
import Derived.Test.YtppdihpobokfnaaGreatDoorGR2
import Derived.Deep.DeepCutAuto
import Derived.Deep.CutBlock
set_option linter.unusedVariables false
set_option linter.unusedSimpArgs false
set_option maxRecDepth 100000
namespace Go.Proofs.YtppdihpobokfnaaGreatDoor
open Go.RowKit Go.Joins
theorem new_there (r : RM) (kind : Int) {es : List RE} : ∃ x, ({ r with next := r.next + 1, nodes := r.nodes ++ [⟨r.next, kind, false, []⟩], ents := es } : RM).nd r.next = some x := by
 have : (({ r with next := r.next + 1, nodes := r.nodes ++ [⟨r.next, kind, false, []⟩], ents := es } : RM).nd r.next).isSome = true := by
  show ((r.nodes ++ [_]).find? _).isSome = true
  rw [List.find?_isSome]
  exact ⟨⟨r.next, kind, false, []⟩, by simp, by simp⟩
 exact Option.isSome_iff_exists.1 this
theorem new_ids {r : RM} (h : RFull r) (kind : Int) : ((r.nodes ++ [(⟨r.next, kind, false, []⟩ : RN)]).map (·.id)).Pairwise (· < ·) := by
 rw [List.map_append, List.pairwise_append]
 refine ⟨h.ids, by simp, fun a ha b hb => ?_⟩
 obtain ⟨x, hx, rfl⟩ := List.mem_map.1 ha
 simp at hb
 rw [hb]
 exact h.below x hx
theorem fdP_nat (j : Nat) (r : RM) : (firstAt (fdP (j : Int)) r.fds = -1 ↔ fdR r (j : Int) = none) := by
 have e : fdR r (j : Int) = r.fds.find? (fdP (j : Int)) := rfl
 rw [e]
 rcases first_find (fdP (j : Int)) r.fds with ⟨h1, h2⟩ | ⟨i, x, h1, _, _, h2, _⟩
 · exact ⟨fun _ => h2, fun _ => h1⟩
 · exact ⟨fun q => by omega, fun q => by rw [h2] at q; cases q⟩
theorem fdP_some {j : Nat} {r : RM} (h : ¬ fdR r (j : Int) = none) : 0 ≤ firstAt (fdP (j : Int)) r.fds := by
 have h1 := first_range (fdP (j : Int)) r.fds
 have h2 : ¬ firstAt (fdP (j : Int)) r.fds = -1 := fun q => h ((fdP_nat j r).1 q)
 omega
theorem freeR_some {r : RM} {fd : Nat} (h : freeFd r = some fd) : fd < 16 ∧ firstAt (fdP (fd : Int)) r.fds = -1 ∧ ∀ j < fd, 0 ≤ firstAt (fdP (j : Int)) r.fds := by
 unfold freeFd at h
 rw [List.find?_eq_some_iff_getElem] at h
 obtain ⟨h1, i, hi, e, h2⟩ := h
 rw [List.getElem_range] at e
 subst e
 rw [List.length_range] at hi
 refine ⟨hi, (fdP_nat _ r).2 (by simpa using h1), fun j hj => fdP_some ?_⟩
 have := h2 j hj
 rw [List.getElem_range] at this
 intro q
 rw [q] at this
 simp at this
theorem freeR_none {r : RM} (h : freeFd r = none) : ∀ j : Nat, j < 16 → 0 ≤ firstAt (fdP (j : Int)) r.fds := fun j hj => by
 unfold freeFd at h
 rw [List.find?_eq_none] at h
 have := h j (List.mem_range.2 hj)
 exact fdP_some (fun q => by rw [q] at this; simp at this)
set_option maxHeartbeats 16000000 in
theorem r22open (Q : Rr) (r : RM) (c : Cl) (w : World) (h : DocAt w Q r) (hF : RFull r) (hp : c.p.size ≤ 100000) :
  Calls Tryz.prog 68 #[.pointer (some ⟨Q.b, 0, none⟩), .agg #[.int .i64 c.k, .string c.p, .string c.o, .int .i64 c.fd, .int .i64 c.n, .string c.d, .bool c.on]] w (OpD w Q (openR r c)) := by
 obtain ⟨l, z, hl⟩ := split_list c.p
 have HSP := Lh (fun W => rsplit_is hl hp W)
 obtain ⟨k, y, hq1⟩ : ∃ k y, pathR r (bts c.p) = (k, y) := ⟨_, _, rfl⟩
 have HPA := Lh (fun W (hW : DocAt W Q r) => hq1 ▸ r22path Q r c.p hp W hW hF)
 have HQ1 := Lh hq1
 have HSL := Lh hl
 have HF := Lh hF
 have HTH := Lh (show ∃ x, r.nd k = some x from by have := path_there hF (bts c.p); rw [hq1] at this; exact this)
 simp only at HPA
 clear hq1 hF hl
 have F0 := DFr.start h c 36 33
 clear h
 go_enter Tryz.func68, Tryz.ntmps68
 go_upto_region 1 with fail
 generalize (w.alloc (.cells #[.int .i64 c.k, .string c.p, .string c.o, .int .i64 c.fd, .int .i64 c.n, .string c.d, .bool c.on] 36)).alloc (.cells #[.int .i64 0, .int .i64 0, .string ⟨#[]⟩, .slice none 0 0, .int .i64 0, .int .i64 0, .int .i64 0, .bool false, .slice none 0 0, .bool false] 33) = W1 at *
 have F1 := Lh F0
 clear F0
 obtain ⟨a0, a1, a2, a3, a4, a5, a6⟩ := row7_cells F1.out.call
 clear a0 a2 a3 a5 a6
 by_cases hn : c.n < 0 ∨ 7 < c.n
 · have HR := Lh (show openR r c = (failA 216, r) from if_pos hn)
   rcases hn with hn | hn
   · have hsz := F1.out.size
     go_wp2_with fail
     refine (r22fail _ _).mono ?_
     rintro e WF ⟨rfl, hb⟩
     have F2 := Lh (F1.out.below hb)
     clear hb F1
     obtain ⟨_, _, _, _, _, _, _, _, _, _, _, _, _, _, _, _, _, _, _, _⟩ := row10_all F2.out.ans
     unfold failV anV Stt.zero
     go_wp2_with fail
     refine fin10 Tryz.results68 rfl rfl F2.out.ans ?_
     · unfold OpD
       rw [HR.out]
       refine ⟨rfl, Q, ?_, rfl⟩
       repeat (refine DMid.other ?_ F2.out.nz (by omega) _ _)
       exact F2.out.mid
   · have hsz := F1.out.size
     go_wp2_with fail
     refine (r22fail _ _).mono ?_
     rintro e WF ⟨rfl, hb⟩
     have F2 := Lh (F1.out.below hb)
     clear hb F1
     obtain ⟨_, _, _, _, _, _, _, _, _, _, _, _, _, _, _, _, _, _, _, _⟩ := row10_all F2.out.ans
     unfold failV anV Stt.zero
     go_wp2_with fail
     refine fin10 Tryz.results68 rfl rfl F2.out.ans ?_
     · unfold OpD
       rw [HR.out]
       refine ⟨rfl, Q, ?_, rfl⟩
       repeat (refine DMid.other ?_ F2.out.nz (by omega) _ _)
       exact F2.out.mid
 have n0 : ¬ c.n < 0 := by omega
 have n7 : ¬ 7 < c.n := by omega
 have HNN := Lh (And.intro n0 n7)
 have hsz := F1.out.size
 go_wp2_with fail
 refine (HSP.out _).mono ?_
 rintro e W2 ⟨⟨a, cap, rfl, _, _, _⟩, hb⟩
 have F2 := Lh (F1.out.below hb)
 clear hb F1 a1 a4 hsz
 have hsz := F2.out.size
 by_cases hz : z = 0
 · subst hz
   obtain ⟨_, _, _, _, e4⟩ := F2.out.doc.cells
   obtain ⟨af, cf, hvf⟩ := own_form5 F2.out.doc.fds
   rw [hvf] at e4
   have hbl := F2.out.doc.row.lt
   have hf16 : (r.fds.length : Int) ≤ 16 := by have := HF.out.fds; omega
   by_cases hfd : 16 ≤ r.fds.length
   · have h16 : (16 : Int) ≤ (r.fds.length : Int) := by omega
     have HR := Lh (show openR r c = (failA 221, r) from by rw [openR, if_neg (by have := HNN.out; omega), HSL.out]; simp [hfd])
     go_wp2_with fail
     refine (r22fail _ _).mono ?_
     rintro e WF ⟨rfl, hb⟩
     have F3 := Lh (F2.out.below hb)
     clear hb F2
     obtain ⟨_, _, _, _, _, _, _, _, _, _, _, _, _, _, _, _, _, _, _, _⟩ := row10_all F3.out.ans
     unfold failV anV Stt.zero
     go_wp2_with fail
     refine fin10 Tryz.results68 rfl rfl F3.out.ans ?_
     · unfold OpD
       rw [HR.out]
       refine ⟨rfl, Q, ?_, rfl⟩
       repeat (refine DMid.other ?_ F3.out.nz (by omega) _ _)
       exact F3.out.mid
   · have h16 : ¬ (16 : Int) ≤ (r.fds.length : Int) := by omega
     obtain ⟨a0, a1, a2, a3, a4, a5, a6⟩ := row7_cells F2.out.call
     clear a0 a2 a3 a5 a6
     go_upto_region 8 with fail
     go_quiet (fail)
     have F3 := Lh (F2.out.drewN nq)
     clear F2 a1 a4 e4
     generalize World.drewN _ nq = W3 at *
     obtain ⟨b1, hb1⟩ : ∃ b, (c.n % 2 == 1) = b := ⟨_, rfl⟩
     obtain ⟨b2, hb2⟩ : ∃ b, (c.n / 2 % 2 == 1) = b := ⟨_, rfl⟩
     obtain ⟨b3, hb3⟩ : ∃ b, (c.n / 4 == 1) = b := ⟨_, rfl⟩
     rw [hb1, hb2, hb3]
     have HB := Lh (And.intro hb1 (And.intro hb2 hb3))
     have HFD := Lh hfd
     obtain ⟨a0, a1, a2, a3, a4, a5, a6⟩ := row7_cells F3.out.call
     clear hb1 hb2 hb3 a0 a2 a3 a4 a5 a6 hbl
     go_wp2_with fail
     refine (HPA.out _ F3.out.doc).mono ?_
     rintro e W4 ⟨rfl, hb⟩
     have F4 := Lh (F3.out.below hb)
     clear hb F3 a1 hsz hfd h16 hf16
     have hsz := F4.out.size
     have HOR : Hid (openR r c = if y = 0 ∧ b1 = true ∧ b2 = true then (failA 211, r) else if y = 0 ∧ r.kind k = 2 then (failA 213, r) else if y ≠ 0 then (if y ≠ 210 ∨ ¬ b1 = true ∨ (placeR r (bts c.p)).2 ≠ 0 ∨ 0 ≤ (placeR r (bts c.p)).1.node then (failA y, r) else if (make1R r (placeR r (bts c.p)).1 1).1.2 ≠ 0 then (failA (make1R r (placeR r (bts c.p)).1 1).1.2, (make1R r (placeR r (bts c.p)).1 1).2) else openAtR (make1R r (placeR r (bts c.p)).1 1).2 c (make1R r (placeR r (bts c.p)).1 1).1.1) else openAtR r c k) := by
      have e1 : (b1 = true) = (c.n % 2 = 1) := by rw [← HB.out.1, beq_iff_eq]
      have e2 : (b2 = true) = (c.n / 2 % 2 = 1) := by rw [← HB.out.2.1, beq_iff_eq]
      show _ = _
      rw [openR, if_neg (by have := HNN.out; omega), HSL.out, if_neg (by simp), if_neg HFD.out]
      simp only [HQ1.out, e1, e2]
     go_upto_block 0 with fail
     go_cut [9, 10] (fun ee kk wx => ∃ (Q1 : Rr) (r1 : RM) (k1 : Nat), ee = .bool b3 ∧ kk = .int .i64 (k1 : Int) ∧ Hid (DFr w Q.O c wx Q1 r1 ∧ Q1.b = Q.b ∧ openR r c = openAtR r1 c k1 ∧ (∃ x, r1.nd k1 = some x) ∧ r1.nodes.length ≤ 1000000 ∧ r1.fds = r.fds ∧ (r1.nodes.map (·.id)).Pairwise (· < ·)))
     case first =>
      by_cases hy : y = 0
      · subst hy
        obtain ⟨xk, hxk⟩ := HTH.out
        have HK := Lh (fun W (hW : DocAt W Q r) => r22kind Q r k xk W hW HF.out.nodes hxk)
        clear hxk
        cases hb : (b1 && b2) with
        | true =>
         obtain ⟨rfl, rfl⟩ : b1 = true ∧ b2 = true := by simpa using hb
         have HR := Lh (show openR r c = (failA 211, r) from by rw [HOR.out]; simp)
         clear hb
         go_wp2_with fail
         refine (r22fail _ _).mono ?_
         rintro e WF ⟨rfl, hb⟩
         have F5 := Lh (F4.out.below hb)
         clear hb F4
         obtain ⟨_, _, _, _, _, _, _, _, _, _, _, _, _, _, _, _, _, _, _, _⟩ := row10_all F5.out.ans
         unfold failV anV Stt.zero
         go_wp2_with fail
         refine fin10 Tryz.results68 rfl rfl F5.out.ans ?_
         · unfold OpD
           rw [HR.out]
           refine ⟨rfl, Q, ?_, rfl⟩
           repeat (refine DMid.other ?_ F5.out.nz (by omega) _ _)
           exact F5.out.mid
        | false =>
         have HNB := Lh (show ¬ (b1 = true ∧ b2 = true) from fun q => by rw [q.1, q.2] at hb; cases hb)
         by_cases hd : r.kind k = 2
         · have q2 : (r.kind k == 2) = true := by simpa using hd
           have HR := Lh (show openR r c = (failA 213, r) from by rw [HOR.out, if_neg (fun q => HNB.out q.2), if_pos ⟨rfl, hd⟩])
           clear hd
           cases b1 with
           | true =>
            obtain rfl : b2 = false := by simpa using hb
            go_wp2_with fail
            refine (HK.out _ F4.out.doc).mono ?_
            rintro e W5 ⟨rfl, m5, rfl⟩
            have F5 := Lh (F4.out.drewN m5)
            clear F4
            generalize World.drewN _ m5 = W5g at *
            go_wp2_with fail
            refine (r22fail _ _).mono ?_
            rintro e WF ⟨rfl, hb⟩
            have F6 := Lh (F5.out.below hb)
            clear hb F5
            obtain ⟨_, _, _, _, _, _, _, _, _, _, _, _, _, _, _, _, _, _, _, _⟩ := row10_all F6.out.ans
            unfold failV anV Stt.zero
            go_wp2_with fail
            refine fin10 Tryz.results68 rfl rfl F6.out.ans ?_
            · unfold OpD
              rw [HR.out]
              refine ⟨rfl, Q, ?_, rfl⟩
              repeat (refine DMid.other ?_ F6.out.nz (by omega) _ _)
              exact F6.out.mid
           | false =>
            go_wp2_with fail
            refine (HK.out _ F4.out.doc).mono ?_
            rintro e W5 ⟨rfl, m5, rfl⟩
            have F5 := Lh (F4.out.drewN m5)
            clear F4
            generalize World.drewN _ m5 = W5g at *
            go_wp2_with fail
            refine (r22fail _ _).mono ?_
            rintro e WF ⟨rfl, hb⟩
            have F6 := Lh (F5.out.below hb)
            clear hb F5
            obtain ⟨_, _, _, _, _, _, _, _, _, _, _, _, _, _, _, _, _, _, _, _⟩ := row10_all F6.out.ans
            unfold failV anV Stt.zero
            go_wp2_with fail
            refine fin10 Tryz.results68 rfl rfl F6.out.ans ?_
            · unfold OpD
              rw [HR.out]
              refine ⟨rfl, Q, ?_, rfl⟩
              repeat (refine DMid.other ?_ F6.out.nz (by omega) _ _)
              exact F6.out.mid
         · have q2 : (r.kind k == 2) = false := by simpa using hd
           have HR := Lh (show openR r c = openAtR r c k from by rw [HOR.out, if_neg (fun q => HNB.out q.2), if_neg (fun q => hd q.2), if_neg (by simp)])
           clear hd
           cases b1 with
           | true =>
            obtain rfl : b2 = false := by simpa using hb
            go_wp2_with fail
            refine (HK.out _ F4.out.doc).mono ?_
            rintro e W5 ⟨rfl, m5, rfl⟩
            have F5 := Lh (F4.out.drewN m5)
            clear F4
            generalize World.drewN _ m5 = W5g at *
            go_wp2_with fail
            go_meet
            case rel => exact ⟨Q, r, k, rfl, rfl, Lh ⟨F5.out, rfl, HR.out, HTH.out, by have := HF.out.nodes; omega, rfl, HF.out.ids⟩⟩
           | false =>
            go_wp2_with fail
            refine (HK.out _ F4.out.doc).mono ?_
            rintro e W5 ⟨rfl, m5, rfl⟩
            have F5 := Lh (F4.out.drewN m5)
            clear F4
            generalize World.drewN _ m5 = W5g at *
            go_wp2_with fail
            go_meet
            case rel => exact ⟨Q, r, k, rfl, rfl, Lh ⟨F5.out, rfl, HR.out, HTH.out, by have := HF.out.nodes; omega, rfl, HF.out.ids⟩⟩
      · have q1 : (y == 0) = false := by simpa using hy
        have q1' : (y != 0) = true := by rw [bne_iff_ne]; exact hy
        obtain ⟨⟨ad, an, asn⟩, zp, hq⟩ : ∃ a z, placeR r (bts c.p) = (a, z) := ⟨_, _, rfl⟩
        have HPL := Lh (fun W (hW : DocAt W Q r) => hq ▸ r22place Q r c.p hp W hW HF.out)
        rw [hq] at HOR
        have HQP := Lh hq
        have HYY := Lh hy
        unfold plT at HPL
        simp only at HPL HOR
        obtain ⟨a0, a1, a2, a3, a4, a5, a6⟩ := row7_cells F4.out.call
        clear hq hy a0 a2 a3 a4 a5 a6
        go_wp2_with fail
        refine (HPL.out _ F4.out.doc).mono ?_
        rintro e W5 ⟨rfl, hb⟩
        have F5 := Lh (F4.out.below hb)
        clear hb F4 a1 hsz HPL
        have hsz := F5.out.size
        by_cases hy2 : y = 210
        · have q2 : (y != 210) = false := by rw [hy2]; rfl
          cases b1 with
          | false =>
           have HR := Lh (show openR r c = (failA y, r) from by rw [HOR.out, if_neg (fun q => HYY.out q.1), if_neg (fun q => HYY.out q.1), if_pos HYY.out, if_pos (.inr (.inl (by simp)))])
           clear hy2
           go_wp2_with fail
           refine (r22fail _ _).mono ?_
           rintro e WF ⟨rfl, hb⟩
           have F6 := Lh (F5.out.below hb)
           clear hb F5
           obtain ⟨_, _, _, _, _, _, _, _, _, _, _, _, _, _, _, _, _, _, _, _⟩ := row10_all F6.out.ans
           unfold failV anV Stt.zero
           go_wp2_with fail
           refine fin10 Tryz.results68 rfl rfl F6.out.ans ?_
           · unfold OpD
             rw [HR.out]
             refine ⟨rfl, Q, ?_, rfl⟩
             repeat (refine DMid.other ?_ F6.out.nz (by omega) _ _)
             exact F6.out.mid
          | true =>
           by_cases hzp : zp = 0
           · subst hzp
             by_cases han : 0 ≤ an
             · have HR := Lh (show openR r c = (failA y, r) from by rw [HOR.out, if_neg (fun q => HYY.out q.1), if_neg (fun q => HYY.out q.1), if_pos HYY.out, if_pos (.inr (.inr (.inr han)))])
               clear hy2
               go_wp2_with fail
               refine (r22fail _ _).mono ?_
               rintro e WF ⟨rfl, hb⟩
               have F6 := Lh (F5.out.below hb)
               clear hb F5
               obtain ⟨_, _, _, _, _, _, _, _, _, _, _, _, _, _, _, _, _, _, _, _⟩ := row10_all F6.out.ans
               unfold failV anV Stt.zero
               go_wp2_with fail
               refine fin10 Tryz.results68 rfl rfl F6.out.ans ?_
               · unfold OpD
                 rw [HR.out]
                 refine ⟨rfl, Q, ?_, rfl⟩
                 repeat (refine DMid.other ?_ F6.out.nz (by omega) _ _)
                 exact F6.out.mid
             · have hnot : ¬ (y ≠ 210 ∨ ¬ true = true ∨ (0 : Int) ≠ 0 ∨ 0 ≤ an) := by
                rintro (q | q | q | q)
                · exact q hy2
                · exact q rfl
                · exact q rfl
                · exact han q
               rw [if_neg hnot] at HOR
               have HMK := Lh (fun W (hW : DocAt W Q r) => r22make1 Q r ⟨ad, an, asn⟩ 1 (tx asn) (tx_bts _) W hW HF.out.nodes HF.out.ents HF.out.next HF.out.limit)
               clear hnot hy2
               by_cases hfull : r.limit ≤ r.nodes.length
               · have hmk : make1R r ⟨ad, an, asn⟩ 1 = ((0, 171), r) := if_pos hfull
                 rw [hmk] at HMK HOR
                 have HR := Lh (show openR r c = (failA 171, r) from by rw [HOR.out, if_neg (fun q => HYY.out q.1), if_neg (fun q => HYY.out q.1), if_pos HYY.out]; simp)
                 clear hmk hfull
                 go_wp2_with fail
                 refine (HMK.out _ F5.out.doc).mono ?_
                 rintro e W6 ⟨rfl, hds⟩
                 obtain ⟨Q6, hQ6, hm6⟩ := hds.mid
                 have HQ6 := Lh hQ6
                 have F6 := Lh (F5.out.then hm6)
                 clear hds hm6 F5 hQ6 hsz
                 have hsz := F6.out.size
                 go_wp2_with fail
                 refine (r22fail _ _).mono ?_
                 rintro e WF ⟨rfl, hb⟩
                 have F7 := Lh (F6.out.below hb)
                 clear hb F6
                 obtain ⟨_, _, _, _, _, _, _, _, _, _, _, _, _, _, _, _, _, _, _, _⟩ := row10_all F7.out.ans
                 unfold failV anV Stt.zero
                 go_wp2_with fail
                 refine fin10 Tryz.results68 rfl rfl F7.out.ans ?_
                 · unfold OpD
                   rw [HR.out]
                   refine ⟨rfl, Q6, ?_, HQ6.out⟩
                   repeat (refine DMid.other ?_ F7.out.nz (by omega) _ _)
                   exact F7.out.mid
               · have hmk : make1R r ⟨ad, an, asn⟩ 1 = ((r.next, 0), { r with next := r.next + 1, nodes := r.nodes ++ [⟨r.next, 1, false, []⟩], ents := r.ents ++ [⟨ad, asn, r.next⟩] }) := if_neg hfull
                 rw [hmk] at HMK HOR
                 have HFU := Lh hfull
                 have HR := Lh (show openR r c = openAtR { r with next := r.next + 1, nodes := r.nodes ++ [⟨r.next, 1, false, []⟩], ents := r.ents ++ [⟨ad, asn, r.next⟩] } c r.next from by rw [HOR.out, if_neg (fun q => HYY.out q.1), if_neg (fun q => HYY.out q.1), if_pos HYY.out]; simp)
                 clear hmk hfull
                 go_wp2_with fail
                 refine (HMK.out _ F5.out.doc).mono ?_
                 rintro e W6 ⟨rfl, hds⟩
                 obtain ⟨Q6, hQ6, hm6⟩ := hds.mid
                 have HQ6 := Lh hQ6
                 have F6 := Lh (F5.out.then hm6)
                 clear hds hm6 F5 hQ6 hsz
                 go_wp2_with fail
                 go_meet
                 case rel => exact ⟨Q6, _, r.next, rfl, rfl, Lh ⟨F6.out, HQ6.out, HR.out, new_there r 1, by have := HF.out.limit; have := HFU.out; show (r.nodes ++ [_]).length ≤ 1000000; rw [List.length_append]; show _ + 1 ≤ _; omega, rfl, new_ids HF.out 1⟩⟩
           · have HR := Lh (show openR r c = (failA y, r) from by rw [HOR.out, if_neg (fun q => HYY.out q.1), if_neg (fun q => HYY.out q.1), if_pos HYY.out, if_pos (.inr (.inr (.inl hzp)))])
             have q3 : (zp != 0) = true := by rw [bne_iff_ne]; exact hzp
             clear hy2 hzp
             go_wp2_with fail
             refine (r22fail _ _).mono ?_
             rintro e WF ⟨rfl, hb⟩
             have F6 := Lh (F5.out.below hb)
             clear hb F5
             obtain ⟨_, _, _, _, _, _, _, _, _, _, _, _, _, _, _, _, _, _, _, _⟩ := row10_all F6.out.ans
             unfold failV anV Stt.zero
             go_wp2_with fail
             refine fin10 Tryz.results68 rfl rfl F6.out.ans ?_
             · unfold OpD
               rw [HR.out]
               refine ⟨rfl, Q, ?_, rfl⟩
               repeat (refine DMid.other ?_ F6.out.nz (by omega) _ _)
               exact F6.out.mid
        · have q2 : (y != 210) = true := by rw [bne_iff_ne]; exact hy2
          have HR := Lh (show openR r c = (failA y, r) from by rw [HOR.out, if_neg (fun q => HYY.out q.1), if_neg (fun q => HYY.out q.1), if_pos HYY.out, if_pos (.inl hy2)])
          clear hy2
          go_wp2_with fail
          refine (r22fail _ _).mono ?_
          rintro e WF ⟨rfl, hb⟩
          have F6 := Lh (F5.out.below hb)
          clear hb F5
          obtain ⟨_, _, _, _, _, _, _, _, _, _, _, _, _, _, _, _, _, _, _, _⟩ := row10_all F6.out.ans
          unfold failV anV Stt.zero
          go_wp2_with fail
          refine fin10 Tryz.results68 rfl rfl F6.out.ans ?_
          · unfold OpD
            rw [HR.out]
            refine ⟨rfl, Q, ?_, rfl⟩
            repeat (refine DMid.other ?_ F6.out.nz (by omega) _ _)
            exact F6.out.mid
     case rest =>
      obtain ⟨Q1, r1, k1, rfl, rfl, HC⟩ := hcut
      obtain ⟨h1, h2, h3, ⟨x1, h4⟩, h5, h6, h7⟩ := HC.out
      have F6 := Lh h1
      have HCB := Lh h2
      have HCF := Lh h6
      have HOR2 := Lh h3
      obtain ⟨iF, hi', hz0, hz1, hz2⟩ := info_parts info22F
      have HIF := Lh (And.intro hi' (And.intro hz0 (And.intro hz1 hz2)))
      rw [← h2]
      obtain ⟨i, hi, hf, hid⟩ := nd_at h4
      have HI := Lh (And.intro hi (And.intro hf (And.intro hid h7)))
      have HC5 := Lh h5
      clear hi' hz0 hz1 hz2 h1 h2 h3 h4 h5 h6 h7 hi hf hid HC HPA HSP HOR
      generalize hWC : wc = W7 at *
      clear hWC
      cases hb3 : b3 with
      | false =>
       have HOA : Hid (openR r c = match freeFd r1 with | some fd => ({ An.zero with n := (fd : Int) }, { r1 with fds := r1.fds ++ [⟨fd, k1, 0⟩] }) | none => (failA 221, r1)) := by
        have : ¬ c.n / 4 = 1 := by have := HB.out.2.2; rw [hb3] at this; simpa using this
        show _ = _
        rw [HOR2.out, openAtR]
        simp only [if_neg this]
        cases freeFd _ <;> rfl
       clear hb3
       have HFC := Lh (fun (j : Nat) W (hW : DocAt W Q1 (r1)) => r22fd Q1 (r1) (j : Int) W hW (by show r1.fds.length ≤ 1000000; rw [HCF.out]; have := HF.out.fds; omega))
       have HLF := Lh (show (r1).fds.length ≤ 1000000 from by show r1.fds.length ≤ 1000000; rw [HCF.out]; have := HF.out.fds; omega)
       cases hfr : freeFd (r1) with
       | some fd =>
        obtain ⟨g1, g2, g3⟩ := freeR_some hfr
        have HG2 := Lh g2
        have HG3 := Lh g3
        have HR := Lh (show openR r c = ({ An.zero with n := (fd : Int) }, { (r1) with fds := (r1).fds ++ [⟨fd, k1, 0⟩] }) from by rw [HOA.out, hfr])
        clear hfr g2 g3
        go_wp2_with fail
        go_loopw [15] (fun jj wr => ∃ j : Nat, j ≤ fd ∧ jj = .int .i64 (j : Int) ∧ wr = W7) (fun jj _ => 16 - (intOf jj).toNat)
        case atStart => exact ⟨0, by omega, rfl, rfl⟩
        case round =>
         obtain ⟨j, hj, rfl, rfl⟩ := hrel
         have j1 : (j : Int) < 16 := by omega
         by_cases hjf : j < fd
         · have hge := HG3.out j hjf
           have h2 : ¬ firstAt (fdP (j : Int)) (r1).fds < 0 := by omega
           go_wp2_with fail
           refine (HFC.out j _ F6.out.doc).mono ?_
           rintro e wF ⟨rfl, rfl⟩
           go_wp2_with fail
           go_roundw
           case rel => exact ⟨j + 1, by omega, by go_num, trivial⟩
           case measure => simp [intOf] <;> omega
         · obtain rfl : j = fd := by omega
           have HFC0 := Lh (HFC.out j _ F6.out.doc)
           rw [show firstAt (fdP (j : Int)) (r1).fds = -1 from HG2.out] at HFC0
           have HDA := Lh F6.out.doc
           go_wp2_with fail
           refine HFC0.out.mono ?_
           rintro e wF ⟨rfl, rfl⟩
           obtain ⟨_, _, e2, e3, e4⟩ := HDA.out.cells
           obtain ⟨aX, cX, hvX⟩ := own_form5 HDA.out.fds
           have hbl := HDA.out.row.lt
           rw [hvX] at e4
           have HVX := Lh hvX
           have HOX := Lh (show (wr).ownsRow 0 108 3 (.slice aX (r1).fds.length cX) (r1).fds.length ((r1).fds.flatMap rfC) from by have := HDA.out.fds; rw [hvX] at this; exact this)
           have HRX := Lh (rowAt_alloc (wr) #[.int .i64 (j : Int), .int .i64 (k1 : Int), .int .i64 0] 108)
           clear hvX
           go_wp2_with (at_builtin; refine wpList_append_own_at _ rfl _ _ 96 rfl 0 108 iF (.agg #[.int .i64 0, .int .i64 0, .int .i64 0]) 3 24 Tryz.underlying96 HIF.out.1 HIF.out.2.1 HIF.out.2.2.1 HIF.out.2.2.2 rfl (by decide) _ (r1).fds.length _ rfl (HOX.out.alloc _) ⟨(wr).heap.size, 0, none⟩ 1 1 [.int .i64 (j : Int), .int .i64 (k1 : Int), .int .i64 0] rfl rfl (row_newsX HRX.out) ?c2 ?c3 ?c4 (Nat.zero_le _) ?_)
           case c2 => first | ((repeat' apply And.intro) <;> rfl) | (intro u hu; simp at hu; rcases hu with rfl | rfl | rfl <;> rfl)
           case c3 => have := HLF.out; unfold maxLen; omega
           case c4 => have := HLF.out; omega
           intro vX wX ownX gX _ atX
           obtain ⟨aY, cY, rfl⟩ := own_formX ownX
           have HPX := Lh (DocAt.putF kinds3 (HDA.out.alloc (.cells #[.int .i64 (j : Int), .int .i64 (k1 : Int), .int .i64 0] 108)) (l := (r1).fds ++ [⟨j, k1, 0⟩]) (by rw [List.length_append, List.flatMap_append]; have := ownX; first | exact this | (simp only [reC, rnC, rfC, List.flatMap_cons, List.flatMap_nil, List.append_nil, List.length_cons, List.length_nil] at *; (try rw [← HS.out, tx_back]); exact this)) (by rw [HVX.out]; exact gX) (by rw [HVX.out]; rcases atX with q | q; exact .inl q; exact .inr (fun k hk => by rw [q] at hk; cases hk; simp)))
           have fX := HPX.out.1.frozen 4 (by simp)
           have cX' := HPX.out.1.cell 4 (by simp)
           have lX := HPX.out.1.lt
           have HD2 := Lh (And.intro HPX.out.2.1 ((Turns.below ((Below.refl (wr).heap.size (wr)).alloc (Nat.le_refl _) (.cells #[.int .i64 (j : Int), .int .i64 (k1 : Int), .int .i64 0] 108))).trans HPX.out.2.2))
           clear ownX gX atX HPX HRX HOX e2 e3 e4 hbl
           have hszU := F6.out.size
           go_upto_region 28 with fail
           have hDX := HD2.out
           generalize hQY : (Rr.mk Q1.b Q1.vn Q1.ve _) = Q2 at hDX
           have hQX : Q2.b = Q1.b := by rw [← hQY]
           have HD3 : Hid (DocAt _ Q2 ({ (r1) with fds := (r1).fds ++ [⟨j, k1, 0⟩] }) ∧ Turns Q1.O Q2.O (wr) _) := hDX
           clear hQY
           clear hDX HD2 fX cX' lX HVX
           try clear HOX
           generalize World.setCell _ _ _ = W8 at *
           rw [← hQX]
           have HQ2 := Lh hQX
           clear hQX
           have FV := Lh (F6.out.then ⟨HD3.out.1, HD3.out.2⟩)
           clear hszU HDA HD3
           have hsz := FV.out.size
           obtain ⟨_, _, _, _, _, _, _, _, _, _, _, _, _, _, _, _, _, _, _, _⟩ := row10_all FV.out.ans
           go_wp2_with fail
           refine fin10 Tryz.results68 rfl rfl FV.out.ans ?_
           · unfold OpD
             rw [HR.out]
             refine ⟨rfl, Q2, ?_, (HQ2.out.trans HCB.out)⟩
             repeat (refine DMid.other ?_ FV.out.nz (by omega) _ _)
             exact FV.out.mid
       | none =>
        have g3 := freeR_none hfr
        have HG3 := Lh g3
        have HR := Lh (show openR r c = (failA 221, r1) from by rw [HOA.out, hfr])
        clear hfr g3
        go_wp2_with fail
        go_loopw [15] (fun jj wr => ∃ j : Nat, j ≤ 16 ∧ jj = .int .i64 (j : Int) ∧ wr = W7) (fun jj _ => 16 - (intOf jj).toNat)
        case atStart => exact ⟨0, by omega, rfl, rfl⟩
        case round =>
         obtain ⟨j, hj, rfl, rfl⟩ := hrel
         by_cases hjf : j < 16
         · have j1 : (j : Int) < 16 := by omega
           have hge := HG3.out j hjf
           have h2 : ¬ firstAt (fdP (j : Int)) (r1).fds < 0 := by omega
           go_wp2_with fail
           refine (HFC.out j _ F6.out.doc).mono ?_
           rintro e wF ⟨rfl, rfl⟩
           go_wp2_with fail
           go_roundw
           case rel => exact ⟨j + 1, by omega, by go_num, trivial⟩
           case measure => simp [intOf] <;> omega
         · obtain rfl : j = 16 := by omega
           have hsz := F6.out.size
           go_wp2_with fail
           refine (r22fail _ _).mono ?_
           rintro e WF ⟨rfl, hb⟩
           have FX := Lh (F6.out.below hb)
           clear hb F6
           obtain ⟨_, _, _, _, _, _, _, _, _, _, _, _, _, _, _, _, _, _, _, _⟩ := row10_all FX.out.ans
           unfold failV anV Stt.zero
           go_wp2_with fail
           refine fin10 Tryz.results68 rfl rfl FX.out.ans ?_
           · unfold OpD
             rw [HR.out]
             refine ⟨rfl, Q1, ?_, HCB.out⟩
             repeat (refine DMid.other ?_ FX.out.nz (by omega) _ _)
             exact FX.out.mid
      | true =>
       have HS := Lh (setR_at HI.out.2.2.2 HI.out.1 HI.out.2.2.1 (fun n => { n with data := [] }))
       have HOA : Hid (openR r c = match freeFd (setR r1 k1 fun n => { n with data := [] }) with | some fd => ({ An.zero with n := (fd : Int) }, { (setR r1 k1 fun n => { n with data := [] }) with fds := (setR r1 k1 fun n => { n with data := [] }).fds ++ [⟨fd, k1, 0⟩] }) | none => (failA 221, setR r1 k1 fun n => { n with data := [] })) := by
        have : c.n / 4 = 1 := by have := HB.out.2.2; rw [hb3] at this; simpa using this
        show _ = _
        rw [HOR2.out, openAtR]
        simp only [if_pos this]
        cases freeFd _ <;> rfl
       clear hb3
       have HNO := Lh (fun W (hW : DocAt W Q1 r1) => HI.out.2.1 ▸ r22node Q1 r1 (k1 : Int) W hW HC5.out)
       obtain ⟨g, cap', u1, u2, ⟨v, u3⟩, u4, u5, u6⟩ := DocAt.setN kinds3 F6.out.doc HI.out.1 (j := 3) (x' := { x1 with data := [] }) (u := .string ⟨#[]⟩) (by omega) rfl
       rw [← HS.out] at u5
       have HU5 := Lh u5
       have HU6 := Lh u6
       obtain ⟨_, _, e2, _, _⟩ := F6.out.doc.cells
       rw [u1] at e2
       have hbl := F6.out.doc.row.lt
       have hi9 : (i : Int) < (r1.nodes.length : Int) := by have := (List.getElem?_eq_some_iff.1 HI.out.1).1; omega
       have hi8 : (0 : Int) ≤ (i : Int) := by omega
       have hsz := F6.out.size
       clear u5 u6
       go_upto_region 22 with fail
       go_still_tail 9, (by kernel_rfl)
       still_call ((HNO.out _ F6.out.drew.doc).mono (fun e w2 hh => ⟨hh.1, hh.2.symm⟩))
       repeat still_step
       refine wpStill_nil ?_
       change wpList _ _ _ _ _ (World.drew _)
       go_upto_region 23 with fail
       have F7 := Lh (F6.out.then ⟨HU5.out, HU6.out⟩).drew
       clear HU5 HU6 u2 u3 u4 e2 hbl hsz HNO F6 hi9 hi8
       generalize World.drew _ = W8 at *
       have HFC := Lh (fun (j : Nat) W (hW : DocAt W Q1 (setR r1 k1 fun n => { n with data := [] })) => r22fd Q1 (setR r1 k1 fun n => { n with data := [] }) (j : Int) W hW (by show r1.fds.length ≤ 1000000; rw [HCF.out]; have := HF.out.fds; omega))
       have HLF := Lh (show (setR r1 k1 fun n => { n with data := [] }).fds.length ≤ 1000000 from by show r1.fds.length ≤ 1000000; rw [HCF.out]; have := HF.out.fds; omega)
       cases hfr : freeFd (setR r1 k1 fun n => { n with data := [] }) with
       | some fd =>
        obtain ⟨g1, g2, g3⟩ := freeR_some hfr
        have HG2 := Lh g2
        have HG3 := Lh g3
        have HR := Lh (show openR r c = ({ An.zero with n := (fd : Int) }, { (setR r1 k1 fun n => { n with data := [] }) with fds := (setR r1 k1 fun n => { n with data := [] }).fds ++ [⟨fd, k1, 0⟩] }) from by rw [HOA.out, hfr])
        clear hfr g2 g3
        go_wp2_with fail
        go_loopw [15] (fun jj wr => ∃ j : Nat, j ≤ fd ∧ jj = .int .i64 (j : Int) ∧ wr = W8) (fun jj _ => 16 - (intOf jj).toNat)
        case atStart => exact ⟨0, by omega, rfl, rfl⟩
        case round =>
         obtain ⟨j, hj, rfl, rfl⟩ := hrel
         have j1 : (j : Int) < 16 := by omega
         by_cases hjf : j < fd
         · have hge := HG3.out j hjf
           have h2 : ¬ firstAt (fdP (j : Int)) (setR r1 k1 fun n => { n with data := [] }).fds < 0 := by omega
           go_wp2_with fail
           refine (HFC.out j _ F7.out.doc).mono ?_
           rintro e wF ⟨rfl, rfl⟩
           go_wp2_with fail
           go_roundw
           case rel => exact ⟨j + 1, by omega, by go_num, trivial⟩
           case measure => simp [intOf] <;> omega
         · obtain rfl : j = fd := by omega
           have HFC0 := Lh (HFC.out j _ F7.out.doc)
           rw [show firstAt (fdP (j : Int)) (setR r1 k1 fun n => { n with data := [] }).fds = -1 from HG2.out] at HFC0
           have HDA := Lh F7.out.doc
           go_wp2_with fail
           refine HFC0.out.mono ?_
           rintro e wF ⟨rfl, rfl⟩
           obtain ⟨_, _, e2, e3, e4⟩ := HDA.out.cells
           obtain ⟨aX, cX, hvX⟩ := own_form5 HDA.out.fds
           have hbl := HDA.out.row.lt
           rw [hvX] at e4
           have HVX := Lh hvX
           have HOX := Lh (show (wr).ownsRow 0 108 3 (.slice aX (setR r1 k1 fun n => { n with data := [] }).fds.length cX) (setR r1 k1 fun n => { n with data := [] }).fds.length ((setR r1 k1 fun n => { n with data := [] }).fds.flatMap rfC) from by have := HDA.out.fds; rw [hvX] at this; exact this)
           have HRX := Lh (rowAt_alloc (wr) #[.int .i64 (j : Int), .int .i64 (k1 : Int), .int .i64 0] 108)
           clear hvX
           go_wp2_with (at_builtin; refine wpList_append_own_at _ rfl _ _ 96 rfl 0 108 iF (.agg #[.int .i64 0, .int .i64 0, .int .i64 0]) 3 24 Tryz.underlying96 HIF.out.1 HIF.out.2.1 HIF.out.2.2.1 HIF.out.2.2.2 rfl (by decide) _ (setR r1 k1 fun n => { n with data := [] }).fds.length _ rfl (HOX.out.alloc _) ⟨(wr).heap.size, 0, none⟩ 1 1 [.int .i64 (j : Int), .int .i64 (k1 : Int), .int .i64 0] rfl rfl (row_newsX HRX.out) ?c2 ?c3 ?c4 (Nat.zero_le _) ?_)
           case c2 => first | ((repeat' apply And.intro) <;> rfl) | (intro u hu; simp at hu; rcases hu with rfl | rfl | rfl <;> rfl)
           case c3 => have := HLF.out; unfold maxLen; omega
           case c4 => have := HLF.out; omega
           intro vX wX ownX gX _ atX
           obtain ⟨aY, cY, rfl⟩ := own_formX ownX
           have HPX := Lh (DocAt.putF kinds3 (HDA.out.alloc (.cells #[.int .i64 (j : Int), .int .i64 (k1 : Int), .int .i64 0] 108)) (l := (setR r1 k1 fun n => { n with data := [] }).fds ++ [⟨j, k1, 0⟩]) (by rw [List.length_append, List.flatMap_append]; have := ownX; first | exact this | (simp only [reC, rnC, rfC, List.flatMap_cons, List.flatMap_nil, List.append_nil, List.length_cons, List.length_nil] at *; (try rw [← HS.out, tx_back]); exact this)) (by rw [HVX.out]; exact gX) (by rw [HVX.out]; rcases atX with q | q; exact .inl q; exact .inr (fun k hk => by rw [q] at hk; cases hk; simp)))
           have fX := HPX.out.1.frozen 4 (by simp)
           have cX' := HPX.out.1.cell 4 (by simp)
           have lX := HPX.out.1.lt
           have HD2 := Lh (And.intro HPX.out.2.1 ((Turns.below ((Below.refl (wr).heap.size (wr)).alloc (Nat.le_refl _) (.cells #[.int .i64 (j : Int), .int .i64 (k1 : Int), .int .i64 0] 108))).trans HPX.out.2.2))
           clear ownX gX atX HPX HRX HOX e2 e3 e4 hbl
           have hszU := F7.out.size
           go_upto_region 28 with fail
           have hDX := HD2.out
           generalize hQY : (Rr.mk Q1.b Q1.vn Q1.ve _) = Q2 at hDX
           have hQX : Q2.b = Q1.b := by rw [← hQY]
           have HD3 : Hid (DocAt _ Q2 ({ (setR r1 k1 fun n => { n with data := [] }) with fds := (setR r1 k1 fun n => { n with data := [] }).fds ++ [⟨j, k1, 0⟩] }) ∧ Turns Q1.O Q2.O (wr) _) := hDX
           clear hQY
           clear hDX HD2 fX cX' lX HVX
           try clear HOX
           generalize World.setCell _ _ _ = W8 at *
           rw [← hQX]
           have HQ2 := Lh hQX
           clear hQX
           have FV := Lh (F7.out.then ⟨HD3.out.1, HD3.out.2⟩)
           clear hszU HDA HD3
           have hsz := FV.out.size
           obtain ⟨_, _, _, _, _, _, _, _, _, _, _, _, _, _, _, _, _, _, _, _⟩ := row10_all FV.out.ans
           go_wp2_with fail
           refine fin10 Tryz.results68 rfl rfl FV.out.ans ?_
           · unfold OpD
             rw [HR.out]
             refine ⟨rfl, Q2, ?_, (HQ2.out.trans HCB.out)⟩
             repeat (refine DMid.other ?_ FV.out.nz (by omega) _ _)
             exact FV.out.mid
       | none =>
        have g3 := freeR_none hfr
        have HG3 := Lh g3
        have HR := Lh (show openR r c = (failA 221, setR r1 k1 fun n => { n with data := [] }) from by rw [HOA.out, hfr])
        clear hfr g3
        go_wp2_with fail
        go_loopw [15] (fun jj wr => ∃ j : Nat, j ≤ 16 ∧ jj = .int .i64 (j : Int) ∧ wr = W8) (fun jj _ => 16 - (intOf jj).toNat)
        case atStart => exact ⟨0, by omega, rfl, rfl⟩
        case round =>
         obtain ⟨j, hj, rfl, rfl⟩ := hrel
         by_cases hjf : j < 16
         · have j1 : (j : Int) < 16 := by omega
           have hge := HG3.out j hjf
           have h2 : ¬ firstAt (fdP (j : Int)) (setR r1 k1 fun n => { n with data := [] }).fds < 0 := by omega
           go_wp2_with fail
           refine (HFC.out j _ F7.out.doc).mono ?_
           rintro e wF ⟨rfl, rfl⟩
           go_wp2_with fail
           go_roundw
           case rel => exact ⟨j + 1, by omega, by go_num, trivial⟩
           case measure => simp [intOf] <;> omega
         · obtain rfl : j = 16 := by omega
           have hsz := F7.out.size
           go_wp2_with fail
           refine (r22fail _ _).mono ?_
           rintro e WF ⟨rfl, hb⟩
           have FX := Lh (F7.out.below hb)
           clear hb F7
           obtain ⟨_, _, _, _, _, _, _, _, _, _, _, _, _, _, _, _, _, _, _, _⟩ := row10_all FX.out.ans
           unfold failV anV Stt.zero
           go_wp2_with fail
           refine fin10 Tryz.results68 rfl rfl FX.out.ans ?_
           · unfold OpD
             rw [HR.out]
             refine ⟨rfl, Q1, ?_, HCB.out⟩
             repeat (refine DMid.other ?_ FX.out.nz (by omega) _ _)
             exact FX.out.mid
 · have HR := Lh (show openR r c = (failA z, r) from by rw [openR, if_neg (by have := HNN.out; omega), HSL.out]; simp [hz])
   have q1 : (z != 0) = true := by rw [bne_iff_ne]; exact hz
   clear hz
   go_wp2_with fail
   refine (r22fail _ _).mono ?_
   rintro e WF ⟨rfl, hb⟩
   have F6 := Lh (F2.out.below hb)
   clear hb F2
   obtain ⟨_, _, _, _, _, _, _, _, _, _, _, _, _, _, _, _, _, _, _, _⟩ := row10_all F6.out.ans
   unfold failV anV Stt.zero
   go_wp2_with fail
   refine fin10 Tryz.results68 rfl rfl F6.out.ans ?_
   · unfold OpD
     rw [HR.out]
     refine ⟨rfl, Q, ?_, rfl⟩
     repeat (refine DMid.other ?_ F6.out.nz (by omega) _ _)
     exact F6.out.mid
end Go.Proofs.YtppdihpobokfnaaGreatDoor
