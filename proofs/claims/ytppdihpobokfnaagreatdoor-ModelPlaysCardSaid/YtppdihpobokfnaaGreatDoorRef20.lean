/- A part of a proof. -/
import Derived.Test.YtppdihpobokfnaaGreatDoorRef12
import Derived.Test.YtppdihpobokfnaaGreatDoorRef13
import Derived.Test.YtppdihpobokfnaaGreatDoorRef14
import Derived.Test.YtppdihpobokfnaaGreatDoorGR3
set_option linter.unusedVariables false
set_option linter.unusedSimpArgs false
set_option maxRecDepth 100000
namespace Go.Proofs.YtppdihpobokfnaaGreatDoor
open Go.RowKit Go.Joins
def NoLs (p : An × RM) : Prop := p.1.names = [] ∧ p.1.lens = []
theorem nols_through (r : RM) (c : Cl) (x : RF) (n : Nat) : NoLs (throughR r c x n) := by
 unfold throughR NoLs; (try simp only []); (repeat' split) <;> exact ⟨rfl, rfl⟩
theorem ListD.form {w W : World} {Q : Rr} {v : Value} {xs : List Value} (h : ListD w Q W v xs) : ∃ a n c, v = .slice a n c := by
 rcases h with ⟨_, h⟩ | ⟨g, cap, e, _⟩
 · exact ⟨none, 0, 0, h⟩
 · exact ⟨_, _, cap, e⟩
theorem nols_ite {q : Prop} [Decidable q] {a b : An × RM} (ha : NoLs a) (hb : NoLs b) : NoLs (if q then a else b) := by split <;> assumption
theorem nols_openAt (r : RM) (c : Cl) (k : Nat) : NoLs (openAtR r c k) := by
 unfold openAtR; cases h : freeFd (if c.n / 4 = 1 then setR r k fun n => { n with data := [] } else r) <;> simp only [h] <;> exact ⟨rfl, rfl⟩
theorem nols_open (r : RM) (c : Cl) : NoLs (openR r c) := by
 unfold openR
 refine nols_ite ⟨rfl, rfl⟩ (nols_ite ⟨rfl, rfl⟩ (nols_ite ⟨rfl, rfl⟩ (nols_ite ⟨rfl, rfl⟩ (nols_ite ⟨rfl, rfl⟩ (nols_ite ?_ (nols_openAt _ _ _))))))
 refine nols_ite ⟨rfl, rfl⟩ (nols_ite ⟨rfl, rfl⟩ (nols_openAt _ _ _))
theorem nols_mkdir (r : RM) (c : Cl) : NoLs (mkdirR r c) := by
 unfold mkdirR NoLs; (try simp only []); (repeat' split) <;> exact ⟨rfl, rfl⟩
theorem nols_remove (r : RM) (c : Cl) : NoLs (removeR r c) := by
 unfold removeR NoLs; (try simp only []); (repeat' split) <;> exact ⟨rfl, rfl⟩
theorem nols_lnk (r : RM) (c : Cl) : NoLs (lnkR r c) := by
 unfold lnkR NoLs; (try simp only []); (repeat' split) <;> exact ⟨rfl, rfl⟩
theorem nols_rename (r : RM) (c : Cl) : NoLs (renameR r c) := by
 unfold renameR NoLs; (try simp only []); (repeat' split) <;> exact ⟨rfl, rfl⟩
set_option maxHeartbeats 16000000 in
theorem r22do (Q : Rr) (r : RM) (c : Cl) (w : World) (h : DocAt w Q r) (hF : RFull r) (hm : r.ents.length ≤ 999999) (hp : c.p.size ≤ 100000) (ho : c.o.size ≤ 100000) (hd : c.d.size ≤ 1000000) :
  Calls Tryz.prog 26 #[.pointer (some ⟨Q.b, 0, none⟩), .agg #[.int .i64 c.k, .string c.p, .string c.o, .int .i64 c.fd, .int .i64 c.n, .string c.d, .bool c.on]] w (OpDG w Q (doR r c)) := by
 have HF := Lh (And.intro hF (And.intro hm (And.intro hp (And.intro ho hd))))
 have hdz : (c.d.size : Int) ≤ 1000000 := by omega
 clear hF hm hp ho hd
 have F0 := DFr.start h c 36 33
 clear h
 go_enter Tryz.func26, Tryz.ntmps26
 go_upto_region 1 with fail
 generalize (w.alloc (.cells #[.int .i64 c.k, .string c.p, .string c.o, .int .i64 c.fd, .int .i64 c.n, .string c.d, .bool c.on] 36)).alloc (.cells #[.int .i64 0, .int .i64 0, .string ⟨#[]⟩, .slice none 0 0, .int .i64 0, .int .i64 0, .int .i64 0, .bool false, .slice none 0 0, .bool false] 33) = W2 at *
 have F2 := Lh F0
 clear F0
 obtain ⟨a0, a1, a2, a3, a4, a5, a6⟩ := row7_cells F2.out.call
 have hsz := F2.out.size
 cases hb : byFd c.k with
 | true =>
  have HBY := Lh (fun W => hb ▸ r22byFd c.k W)
  have HDO := Lh (show doR r c = match fdR r c.fd with | none => (failA 220, r) | some x => throughR r c x c.d.size from by unfold doR; rw [if_pos hb]; rfl)
  clear hb
  rcases first_find (fdP c.fd) r.fds with ⟨h1, h2⟩ | ⟨i, x, h1, h2, _, h3, _⟩
  · have HFD := Lh (fun W (hW : DocAt W Q r) => h1 ▸ r22fd Q r c.fd W hW (by have := HF.out.1.fds; omega))
    have HR := Lh (show doR r c = (failA 220, r) from by rw [HDO.out, show fdR r c.fd = none from h2])
    clear h1 h2
    go_wp2_with fail
    refine (HBY.out _).mono ?_
    rintro e w5 ⟨rfl, rfl⟩
    go_wp2_with fail
    refine (HFD.out _ F2.out.doc).mono ?_
    rintro e w5 ⟨rfl, rfl⟩
    clear a0 a1 a2 a3 a4 a5 a6
    go_wp2_with fail
    refine (r22fail _ _).mono ?_
    rintro e WF ⟨rfl, hb⟩
    have F3 := Lh (F2.out.below hb)
    clear hb F2
    obtain ⟨_, _, _, _, _, _, _, _, _, _, _, _, _, _, _, _, _, _, _, _⟩ := row10_all F3.out.ans
    unfold failV anV Stt.zero
    go_wp2_with fail
    refine fin10 Tryz.results26 rfl rfl F3.out.ans ?_
    · rw [HR.out]
      refine OpD.all ?_ rfl rfl
      refine ⟨rfl, Q, ?_, rfl⟩
      repeat (refine DMid.other ?_ F3.out.nz (by omega) _ _)
      exact F3.out.mid
  · have HFD := Lh (fun W (hW : DocAt W Q r) => h1 ▸ r22fd Q r c.fd W hW (by have := HF.out.1.fds; omega))
    have HTH := Lh (fun W (hW : DocAt W Q r) => r22through Q r c x i c.d.size W hW HF.out.1 h1 h2 (Nat.le_refl _) HF.out.2.2.2.2)
    have HR := Lh (show doR r c = throughR r c x c.d.size from by rw [HDO.out, show fdR r c.fd = some x from h3])
    have HLS := Lh (nols_through r c x c.d.size)
    have hi0 : ¬ (i : Int) < 0 := by omega
    clear h1 h2 h3
    go_wp2_with fail
    refine (HBY.out _).mono ?_
    rintro e w5 ⟨rfl, rfl⟩
    go_wp2_with fail
    refine (HFD.out _ F2.out.doc).mono ?_
    rintro e w5 ⟨rfl, rfl⟩
    go_wp2_with fail
    refine (HTH.out _ F2.out.doc).mono ?_
    rintro e W5 ⟨rfl, Q5, hm5, hb5⟩
    have F5 := Lh (F2.out.then hm5)
    have HB5 := Lh hb5
    have HS5 := Lh F2.out.size
    clear hm5 hb5 F2 a0 a1 a2 a3 a4 a5 a6 HTH HFD
    have hsz := F5.out.size
    generalize throughR r c x c.d.size = p at *
    obtain ⟨_, _, _, _, _, _, _, _, _, _, _, _, _, _, _, _, _, _, _, _⟩ := row10_all F5.out.ans
    unfold ansC
    go_wp2_with fail
    refine fin10 Tryz.results26 rfl rfl F5.out.ans ?_
    · rw [HR.out]
      refine OpD.all ?_ HLS.out.1 HLS.out.2
      refine ⟨rfl, Q5, ?_, HB5.out⟩
      repeat (refine DMid.other ?_ F5.out.nz (by omega) _ _)
      exact F5.out.mid
 | false =>
  have HBY := Lh (fun W => hb ▸ r22byFd c.k W)
  have HDO := Lh (show ¬ byFd c.k = true from by rw [hb]; simp)
  clear hb
  go_wp2_with fail
  refine (HBY.out _).mono ?_
  rintro e w5 ⟨rfl, rfl⟩
  clear HBY
  by_cases k1 : c.k = 1
  · have HK := Lh k1
    have b1 : (c.k == 1) = true := by rw [beq_iff_eq]; exact k1
    clear k1
    have HR := Lh (show doR r c = openR r c from by unfold doR; rw [if_neg HDO.out, HK.out]; rfl)
    have HLS := Lh (nols_open r c)
    go_wp2_with fail
    refine (r22open Q r c _ F2.out.doc HF.out.1 HF.out.2.2.1).mono ?_
    rintro e W5 ⟨rfl, Q5, hm5, hb5⟩
    have F5 := Lh (F2.out.then hm5)
    have HB5 := Lh hb5
    have HS5 := Lh F2.out.size
    clear hm5 hb5 F2 a0 a1 a2 a3 a4 a5 a6
    have hsz := F5.out.size
    generalize openR r c = p at *
    obtain ⟨_, _, _, _, _, _, _, _, _, _, _, _, _, _, _, _, _, _, _, _⟩ := row10_all F5.out.ans
    unfold ansC
    go_wp2_with fail
    refine fin10 Tryz.results26 rfl rfl F5.out.ans ?_
    · rw [HR.out]
      refine OpD.all ?_ HLS.out.1 HLS.out.2
      refine ⟨rfl, Q5, ?_, HB5.out⟩
      repeat (refine DMid.other ?_ F5.out.nz (by omega) _ _)
      exact F5.out.mid
  have HN1 := Lh k1
  have b1 : (c.k == 1) = false := by rw [beq_eq_false_iff_ne]; exact k1
  clear k1
  by_cases k7 : c.k = 7
  · have HK := Lh k7
    have b7 : (c.k == 7) = true := by rw [beq_iff_eq]; exact k7
    clear k7
    have HR := Lh (show doR r c = mkdirR r c from by unfold doR; rw [if_neg HDO.out, HK.out]; rfl)
    have HLS := Lh (nols_mkdir r c)
    go_wp2_with fail
    refine (r22mkdir Q r c _ F2.out.doc HF.out.1 HF.out.2.2.1).mono ?_
    rintro e W5 ⟨rfl, Q5, hm5, hb5⟩
    have F5 := Lh (F2.out.then hm5)
    have HB5 := Lh hb5
    have HS5 := Lh F2.out.size
    clear hm5 hb5 F2 a0 a1 a2 a3 a4 a5 a6
    have hsz := F5.out.size
    generalize mkdirR r c = p at *
    obtain ⟨_, _, _, _, _, _, _, _, _, _, _, _, _, _, _, _, _, _, _, _⟩ := row10_all F5.out.ans
    unfold ansC
    go_wp2_with fail
    refine fin10 Tryz.results26 rfl rfl F5.out.ans ?_
    · rw [HR.out]
      refine OpD.all ?_ HLS.out.1 HLS.out.2
      refine ⟨rfl, Q5, ?_, HB5.out⟩
      repeat (refine DMid.other ?_ F5.out.nz (by omega) _ _)
      exact F5.out.mid
  have HN7 := Lh k7
  have b7 : (c.k == 7) = false := by rw [beq_eq_false_iff_ne]; exact k7
  clear k7
  by_cases k8 : c.k = 8
  · have HK := Lh k8
    have b8 : (c.k == 8) = true := by rw [beq_iff_eq]; exact k8
    clear k8
    have HR := Lh (show doR r c = removeR r c from by unfold doR; rw [if_neg HDO.out, HK.out]; rfl)
    have HLS := Lh (nols_remove r c)
    go_wp2_with fail
    refine (r22remove Q r c _ F2.out.doc HF.out.1 HF.out.2.2.1 (.inl HK.out)).mono ?_
    rintro e W5 ⟨rfl, Q5, hm5, hb5⟩
    have F5 := Lh (F2.out.then hm5)
    have HB5 := Lh hb5
    have HS5 := Lh F2.out.size
    clear hm5 hb5 F2 a0 a1 a2 a3 a4 a5 a6
    have hsz := F5.out.size
    generalize removeR r c = p at *
    obtain ⟨_, _, _, _, _, _, _, _, _, _, _, _, _, _, _, _, _, _, _, _⟩ := row10_all F5.out.ans
    unfold ansC
    go_wp2_with fail
    refine fin10 Tryz.results26 rfl rfl F5.out.ans ?_
    · rw [HR.out]
      refine OpD.all ?_ HLS.out.1 HLS.out.2
      refine ⟨rfl, Q5, ?_, HB5.out⟩
      repeat (refine DMid.other ?_ F5.out.nz (by omega) _ _)
      exact F5.out.mid
  have HN8 := Lh k8
  have b8 : (c.k == 8) = false := by rw [beq_eq_false_iff_ne]; exact k8
  clear k8
  by_cases k10 : c.k = 10
  · have HK := Lh k10
    have b10 : (c.k == 10) = true := by rw [beq_iff_eq]; exact k10
    clear k10
    have HR := Lh (show doR r c = removeR r c from by unfold doR; rw [if_neg HDO.out, HK.out]; rfl)
    have HLS := Lh (nols_remove r c)
    go_wp2_with fail
    refine (r22remove Q r c _ F2.out.doc HF.out.1 HF.out.2.2.1 (.inr HK.out)).mono ?_
    rintro e W5 ⟨rfl, Q5, hm5, hb5⟩
    have F5 := Lh (F2.out.then hm5)
    have HB5 := Lh hb5
    have HS5 := Lh F2.out.size
    clear hm5 hb5 F2 a0 a1 a2 a3 a4 a5 a6
    have hsz := F5.out.size
    generalize removeR r c = p at *
    obtain ⟨_, _, _, _, _, _, _, _, _, _, _, _, _, _, _, _, _, _, _, _⟩ := row10_all F5.out.ans
    unfold ansC
    go_wp2_with fail
    refine fin10 Tryz.results26 rfl rfl F5.out.ans ?_
    · rw [HR.out]
      refine OpD.all ?_ HLS.out.1 HLS.out.2
      refine ⟨rfl, Q5, ?_, HB5.out⟩
      repeat (refine DMid.other ?_ F5.out.nz (by omega) _ _)
      exact F5.out.mid
  have HN10 := Lh k10
  have b10 : (c.k == 10) = false := by rw [beq_eq_false_iff_ne]; exact k10
  clear k10
  by_cases k9 : c.k = 9
  · have HK := Lh k9
    have b9 : (c.k == 9) = true := by rw [beq_iff_eq]; exact k9
    clear k9
    have HR := Lh (show doR r c = lnkR r c from by unfold doR; rw [if_neg HDO.out, HK.out]; rfl)
    have HLS := Lh (nols_lnk r c)
    go_wp2_with fail
    refine (r22link Q r c _ F2.out.doc HF.out.1 HF.out.2.2.1 HF.out.2.2.2.1).mono ?_
    rintro e W5 ⟨rfl, Q5, hm5, hb5⟩
    have F5 := Lh (F2.out.then hm5)
    have HB5 := Lh hb5
    have HS5 := Lh F2.out.size
    clear hm5 hb5 F2 a0 a1 a2 a3 a4 a5 a6
    have hsz := F5.out.size
    generalize lnkR r c = p at *
    obtain ⟨_, _, _, _, _, _, _, _, _, _, _, _, _, _, _, _, _, _, _, _⟩ := row10_all F5.out.ans
    unfold ansC
    go_wp2_with fail
    refine fin10 Tryz.results26 rfl rfl F5.out.ans ?_
    · rw [HR.out]
      refine OpD.all ?_ HLS.out.1 HLS.out.2
      refine ⟨rfl, Q5, ?_, HB5.out⟩
      repeat (refine DMid.other ?_ F5.out.nz (by omega) _ _)
      exact F5.out.mid
  have HN9 := Lh k9
  have b9 : (c.k == 9) = false := by rw [beq_eq_false_iff_ne]; exact k9
  clear k9
  by_cases k11 : c.k = 11
  · have HK := Lh k11
    have b11 : (c.k == 11) = true := by rw [beq_iff_eq]; exact k11
    clear k11
    have HR := Lh (show doR r c = renameR r c from by unfold doR; rw [if_neg HDO.out, HK.out]; rfl)
    have HLS := Lh (nols_rename r c)
    go_wp2_with fail
    refine (r22rename Q r c _ F2.out.doc HF.out.1 HF.out.2.1 HF.out.2.2.1 HF.out.2.2.2.1).mono ?_
    rintro e W5 ⟨rfl, Q5, hm5, hb5⟩
    have F5 := Lh (F2.out.then hm5)
    have HB5 := Lh hb5
    have HS5 := Lh F2.out.size
    clear hm5 hb5 F2 a0 a1 a2 a3 a4 a5 a6
    have hsz := F5.out.size
    generalize renameR r c = p at *
    obtain ⟨_, _, _, _, _, _, _, _, _, _, _, _, _, _, _, _, _, _, _, _⟩ := row10_all F5.out.ans
    unfold ansC
    go_wp2_with fail
    refine fin10 Tryz.results26 rfl rfl F5.out.ans ?_
    · rw [HR.out]
      refine OpD.all ?_ HLS.out.1 HLS.out.2
      refine ⟨rfl, Q5, ?_, HB5.out⟩
      repeat (refine DMid.other ?_ F5.out.nz (by omega) _ _)
      exact F5.out.mid
  have HN11 := Lh k11
  have b11 : (c.k == 11) = false := by rw [beq_eq_false_iff_ne]; exact k11
  clear k11
  by_cases k12 : c.k = 12
  · have HK := Lh k12
    have b12 : (c.k == 12) = true := by rw [beq_iff_eq]; exact k12
    clear k12
    have HR := Lh (show doR r c = byR r c from by unfold doR; rw [if_neg HDO.out, HK.out]; rfl)
    go_wp2_with fail
    refine (r22by Q r c _ F2.out.doc HF.out.1 HF.out.2.2.1).mono ?_
    rintro e W5 ⟨ns, ls, rfl, Q5, hm5, hb5, hn5, hl5⟩
    obtain ⟨na, nn, nc, rfl⟩ := hn5.form
    obtain ⟨la, ln, lc, rfl⟩ := hl5.form
    have F5 := Lh (F2.out.then hm5)
    have HB5 := Lh hb5
    have HS5 := Lh F2.out.size
    have HL5 := Lh (And.intro hn5 hl5)
    clear hm5 hb5 F2 a0 a1 a2 a3 a4 a5 a6 hn5 hl5
    have hsz := F5.out.size
    generalize byR r c = p at *
    obtain ⟨_, _, _, _, _, _, _, _, _, _, _, _, _, _, _, _, _, _, _, _⟩ := row10_all F5.out.ans
    unfold ansC
    go_wp2_with fail
    refine fin10 Tryz.results26 rfl rfl F5.out.ans ?_
    · rw [HR.out]
      refine ⟨.slice na nn nc, .slice la ln lc, rfl, Q5, ?_, HB5.out, ?_, ?_⟩
      rotate_left
      · refine ListD.less (W0 := W2) ?_ (by have := HS5.out; omega)
        repeat (refine ListD.far (W0 := W2) ?_ HS5.out)
        exact HL5.out.1
      · refine ListD.less (W0 := W2) ?_ (by have := HS5.out; omega)
        repeat (refine ListD.far (W0 := W2) ?_ HS5.out)
        exact HL5.out.2
      repeat (refine DMid.other ?_ F5.out.nz (by omega) _ _)
      exact F5.out.mid
  have HN12 := Lh k12
  have b12 : (c.k == 12) = false := by rw [beq_eq_false_iff_ne]; exact k12
  clear k12
  by_cases k13 : c.k = 13
  · have HK := Lh k13
    have b13 : (c.k == 13) = true := by rw [beq_iff_eq]; exact k13
    clear k13
    have HR := Lh (show doR r c = byR r c from by unfold doR; rw [if_neg HDO.out, HK.out]; rfl)
    go_wp2_with fail
    refine (r22by Q r c _ F2.out.doc HF.out.1 HF.out.2.2.1).mono ?_
    rintro e W5 ⟨ns, ls, rfl, Q5, hm5, hb5, hn5, hl5⟩
    obtain ⟨na, nn, nc, rfl⟩ := hn5.form
    obtain ⟨la, ln, lc, rfl⟩ := hl5.form
    have F5 := Lh (F2.out.then hm5)
    have HB5 := Lh hb5
    have HS5 := Lh F2.out.size
    have HL5 := Lh (And.intro hn5 hl5)
    clear hm5 hb5 F2 a0 a1 a2 a3 a4 a5 a6 hn5 hl5
    have hsz := F5.out.size
    generalize byR r c = p at *
    obtain ⟨_, _, _, _, _, _, _, _, _, _, _, _, _, _, _, _, _, _, _, _⟩ := row10_all F5.out.ans
    unfold ansC
    go_wp2_with fail
    refine fin10 Tryz.results26 rfl rfl F5.out.ans ?_
    · rw [HR.out]
      refine ⟨.slice na nn nc, .slice la ln lc, rfl, Q5, ?_, HB5.out, ?_, ?_⟩
      rotate_left
      · refine ListD.less (W0 := W2) ?_ (by have := HS5.out; omega)
        repeat (refine ListD.far (W0 := W2) ?_ HS5.out)
        exact HL5.out.1
      · refine ListD.less (W0 := W2) ?_ (by have := HS5.out; omega)
        repeat (refine ListD.far (W0 := W2) ?_ HS5.out)
        exact HL5.out.2
      repeat (refine DMid.other ?_ F5.out.nz (by omega) _ _)
      exact F5.out.mid
  have HN13 := Lh k13
  have b13 : (c.k == 13) = false := by rw [beq_eq_false_iff_ne]; exact k13
  clear k13
  by_cases k15 : c.k = 15
  · have HK := Lh k15
    have b15 : (c.k == 15) = true := by rw [beq_iff_eq]; exact k15
    clear k15
    have HR := Lh (show doR r c = byR r c from by unfold doR; rw [if_neg HDO.out, HK.out]; rfl)
    go_wp2_with fail
    refine (r22by Q r c _ F2.out.doc HF.out.1 HF.out.2.2.1).mono ?_
    rintro e W5 ⟨ns, ls, rfl, Q5, hm5, hb5, hn5, hl5⟩
    obtain ⟨na, nn, nc, rfl⟩ := hn5.form
    obtain ⟨la, ln, lc, rfl⟩ := hl5.form
    have F5 := Lh (F2.out.then hm5)
    have HB5 := Lh hb5
    have HS5 := Lh F2.out.size
    have HL5 := Lh (And.intro hn5 hl5)
    clear hm5 hb5 F2 a0 a1 a2 a3 a4 a5 a6 hn5 hl5
    have hsz := F5.out.size
    generalize byR r c = p at *
    obtain ⟨_, _, _, _, _, _, _, _, _, _, _, _, _, _, _, _, _, _, _, _⟩ := row10_all F5.out.ans
    unfold ansC
    go_wp2_with fail
    refine fin10 Tryz.results26 rfl rfl F5.out.ans ?_
    · rw [HR.out]
      refine ⟨.slice na nn nc, .slice la ln lc, rfl, Q5, ?_, HB5.out, ?_, ?_⟩
      rotate_left
      · refine ListD.less (W0 := W2) ?_ (by have := HS5.out; omega)
        repeat (refine ListD.far (W0 := W2) ?_ HS5.out)
        exact HL5.out.1
      · refine ListD.less (W0 := W2) ?_ (by have := HS5.out; omega)
        repeat (refine ListD.far (W0 := W2) ?_ HS5.out)
        exact HL5.out.2
      repeat (refine DMid.other ?_ F5.out.nz (by omega) _ _)
      exact F5.out.mid
  have HN15 := Lh k15
  have b15 : (c.k == 15) = false := by rw [beq_eq_false_iff_ne]; exact k15
  clear k15
  by_cases k17 : c.k = 17
  · have HK := Lh k17
    have b17 : (c.k == 17) = true := by rw [beq_iff_eq]; exact k17
    clear k17
    have HR := Lh (show doR r c = (An.zero, r) from by unfold doR; rw [if_neg HDO.out, HK.out]; rfl)
    clear a1 a2 a3 a4 a5 a6
    obtain ⟨_, _, _, _, _, _, _, _, _, _, _, _, _, _, _, _, _, _, _, _⟩ := row10_all F2.out.ans
    go_wp2_with fail
    refine fin10 Tryz.results26 rfl rfl F2.out.ans ?_
    · rw [HR.out]
      refine OpD.all ?_ rfl rfl
      refine ⟨rfl, Q, ?_, rfl⟩
      repeat (refine DMid.other ?_ F2.out.nz (by omega) _ _)
      exact F2.out.mid
  have HN17 := Lh k17
  have b17 : (c.k == 17) = false := by rw [beq_eq_false_iff_ne]; exact k17
  clear k17
  by_cases k19 : c.k = 19
  · have HK := Lh k19
    have b19 : (c.k == 19) = true := by rw [beq_iff_eq]; exact k19
    clear k19
    have HR := Lh (show doR r c = (An.zero, r) from by unfold doR; rw [if_neg HDO.out, HK.out]; rfl)
    clear a1 a2 a3 a4 a5 a6
    obtain ⟨_, _, _, _, _, _, _, _, _, _, _, _, _, _, _, _, _, _, _, _⟩ := row10_all F2.out.ans
    go_wp2_with fail
    refine fin10 Tryz.results26 rfl rfl F2.out.ans ?_
    · rw [HR.out]
      refine OpD.all ?_ rfl rfl
      refine ⟨rfl, Q, ?_, rfl⟩
      repeat (refine DMid.other ?_ F2.out.nz (by omega) _ _)
      exact F2.out.mid
  have HN19 := Lh k19
  have b19 : (c.k == 19) = false := by rw [beq_eq_false_iff_ne]; exact k19
  clear k19
  by_cases k20 : c.k = 20
  · have HK := Lh k20
    have b20 : (c.k == 20) = true := by rw [beq_iff_eq]; exact k20
    clear k20
    have HR := Lh (show doR r c = (An.zero, r) from by unfold doR; rw [if_neg HDO.out, HK.out]; rfl)
    clear a1 a2 a3 a4 a5 a6
    obtain ⟨_, _, _, _, _, _, _, _, _, _, _, _, _, _, _, _, _, _, _, _⟩ := row10_all F2.out.ans
    go_wp2_with fail
    refine fin10 Tryz.results26 rfl rfl F2.out.ans ?_
    · rw [HR.out]
      refine OpD.all ?_ rfl rfl
      refine ⟨rfl, Q, ?_, rfl⟩
      repeat (refine DMid.other ?_ F2.out.nz (by omega) _ _)
      exact F2.out.mid
  have HN20 := Lh k20
  have b20 : (c.k == 20) = false := by rw [beq_eq_false_iff_ne]; exact k20
  clear k20
  by_cases k18 : c.k = 18
  · have HK := Lh k18
    have b18 : (c.k == 18) = true := by rw [beq_iff_eq]; exact k18
    clear k18
    have HR := Lh (show doR r c = ({ An.zero with lens := [(r.limit : Int) - r.nodes.length] }, r) from by unfold doR; rw [if_neg HDO.out, HK.out]; rfl)
    clear a1 a2 a3 a4 a5 a6
    obtain ⟨e0, _, e2, _, _⟩ := F2.out.doc.cells
    obtain ⟨an, cn, hvn⟩ := own_form5 F2.out.doc.nodes
    rw [hvn] at e2
    have hbl := F2.out.doc.row.lt
    have lm : (r.limit : Int) ≤ 1000000 := by have := HF.out.1.limit; omega
    have ln : (r.nodes.length : Int) ≤ 1000000 := by have := HF.out.1.nodes; omega
    have hw : IntKind.i64.wrap ((r.limit : Int) - (r.nodes.length : Int)) = (r.limit : Int) - (r.nodes.length : Int) := IntWalk.i64_in _ (by omega)
    clear hvn
    go_upto_region 27 with fail
    go_still_tail 10, (by kernel_rfl)
    change wpList _ _ _ _ _ (World.drew _)
    have F3 := Lh F2.out.drew
    clear e0 e2 hbl a0 F2 hsz
    generalize World.drew W2 = W3 at *
    have HF3 := Lh (F3.out.alloc (.cells #[.int .i64 ((r.limit : Int) - (r.nodes.length : Int))] 3))
    have HL := Lh (show ListD W3 Q (W3.alloc (.cells #[.int .i64 ((r.limit : Int) - (r.nodes.length : Int))] 3)) (.slice (some ⟨W3.heap.size, 0, none⟩) 1 1) [.int .i64 ((r.limit : Int) - (r.nodes.length : Int))] from .inr ⟨W3.heap.size, 1, rfl, rowAt_alloc W3 _ _, fun q => by have := F3.out.doc.old q; omega, Nat.le_refl _⟩)
    have HS5 := Lh F3.out.size
    have hsz := F3.out.size
    generalize hW4 : W3.alloc (.cells #[.int .i64 ((r.limit : Int) - (r.nodes.length : Int))] 3) = W4 at *
    obtain ⟨_, _, _, _, _, _, _, _, _, _, _, _, _, _, _, _, _, _, _, _⟩ := row10_all HF3.out.ans
    go_wp2_with fail
    refine fin10 Tryz.results26 rfl rfl HF3.out.ans ?_
    · rw [HR.out]
      refine ⟨nilS, .slice (some ⟨W3.heap.size, 0, none⟩) 1 1, rfl, Q, ?_, rfl, .inl ⟨rfl, rfl⟩, ?_⟩
      rotate_left
      · refine ListD.less (W0 := W3) ?_ (by have := HS5.out; omega)
        repeat (refine ListD.far (W0 := W3) ?_ HS5.out)
        exact HL.out
      repeat (refine DMid.other ?_ HF3.out.nz (by omega) _ _)
      exact HF3.out.mid
  have HN18 := Lh k18
  have b18 : (c.k == 18) = false := by rw [beq_eq_false_iff_ne]; exact k18
  clear k18
  have HR := Lh (show doR r c = (failA 2, r) from by
   unfold doR
   rw [if_neg HDO.out]
   split
   · exact absurd (by assumption) HN1.out
   · exact absurd (by assumption) HN7.out
   · exact absurd (by assumption) HN8.out
   · exact absurd (by assumption) HN10.out
   · exact absurd (by assumption) HN9.out
   · exact absurd (by assumption) HN11.out
   · exact absurd (by assumption) HN12.out
   · exact absurd (by assumption) HN13.out
   · exact absurd (by assumption) HN15.out
   · exact absurd (by assumption) HN17.out
   · exact absurd (by assumption) HN19.out
   · exact absurd (by assumption) HN20.out
   · exact absurd (by assumption) HN18.out
   · rfl)
  clear a1 a2 a3 a4 a5 a6
  go_wp2_with fail
  refine (r22fail _ _).mono ?_
  rintro e WF ⟨rfl, hb⟩
  have F3 := Lh (F2.out.below hb)
  clear hb F2
  obtain ⟨_, _, _, _, _, _, _, _, _, _, _, _, _, _, _, _, _, _, _, _⟩ := row10_all F3.out.ans
  unfold failV anV Stt.zero
  go_wp2_with fail
  refine fin10 Tryz.results26 rfl rfl F3.out.ans ?_
  · rw [HR.out]
    refine OpD.all ?_ rfl rfl
    refine ⟨rfl, Q, ?_, rfl⟩
    repeat (refine DMid.other ?_ F3.out.nz (by omega) _ _)
    exact F3.out.mid
set_option maxHeartbeats 8000000 in
theorem r22short (Q : Rr) (r : RM) (c : Cl) (n : Int) (w : World) (h : DocAt w Q r) (hF : RFull r) (hd : c.d.size ≤ 1000000) :
  Calls Tryz.prog 28 #[.pointer (some ⟨Q.b, 0, none⟩), .agg #[.int .i64 c.k, .string c.p, .string c.o, .int .i64 c.fd, .int .i64 c.n, .string c.d, .bool c.on], .int .i64 n] w (OpDG w Q (shortR r c n)) := by
 have HF := Lh (And.intro hF hd)
 have hdz : (c.d.size : Int) ≤ 1000000 := by omega
 clear hF hd
 have F0 := DFr.start h c 36 33
 clear h
 go_enter Tryz.func28, Tryz.ntmps28
 go_upto_region 1 with fail
 generalize (w.alloc (.cells #[.int .i64 c.k, .string c.p, .string c.o, .int .i64 c.fd, .int .i64 c.n, .string c.d, .bool c.on] 36)).alloc (.cells #[.int .i64 0, .int .i64 0, .string ⟨#[]⟩, .slice none 0 0, .int .i64 0, .int .i64 0, .int .i64 0, .bool false, .slice none 0 0, .bool false] 33) = W2 at *
 have F2 := Lh F0
 clear F0
 obtain ⟨a0, a1, a2, a3, a4, a5, a6⟩ := row7_cells F2.out.call
 have hsz := F2.out.size
 by_cases k4 : c.k = 4
 · have b4 : (c.k != 4) = false := by rw [k4]; rfl
   have b4' : (c.k == 4) = true := by rw [beq_iff_eq]; exact k4
   have HK := Lh k4
   clear k4
   by_cases hn : n < 0
   · have HR := Lh (show shortR r c n = (failA 2, r) from if_pos (.inr (.inl hn)))
     clear a1 a2 a3 a4 a6
     go_wp2_with fail
     refine (r22fail _ _).mono ?_
     rintro e WF ⟨rfl, hb⟩
     have F3 := Lh (F2.out.below hb)
     clear hb F2
     obtain ⟨_, _, _, _, _, _, _, _, _, _, _, _, _, _, _, _, _, _, _, _⟩ := row10_all F3.out.ans
     unfold failV anV Stt.zero
     go_wp2_with fail
     refine fin10 Tryz.results28 rfl rfl F3.out.ans ?_
     · rw [HR.out]
       refine OpD.all ?_ rfl rfl
       refine ⟨rfl, Q, ?_, rfl⟩
       repeat (refine DMid.other ?_ F3.out.nz (by omega) _ _)
       exact F3.out.mid
   · by_cases hs : (c.d.size : Int) < n
     · have HR := Lh (show shortR r c n = (failA 2, r) from if_pos (.inr (.inr hs)))
       clear a1 a2 a3 a4 a6
       go_wp2_with fail
       refine (r22fail _ _).mono ?_
       rintro e WF ⟨rfl, hb⟩
       have F3 := Lh (F2.out.below hb)
       clear hb F2
       obtain ⟨_, _, _, _, _, _, _, _, _, _, _, _, _, _, _, _, _, _, _, _⟩ := row10_all F3.out.ans
       unfold failV anV Stt.zero
       go_wp2_with fail
       refine fin10 Tryz.results28 rfl rfl F3.out.ans ?_
       · rw [HR.out]
         refine OpD.all ?_ rfl rfl
         refine ⟨rfl, Q, ?_, rfl⟩
         repeat (refine DMid.other ?_ F3.out.nz (by omega) _ _)
         exact F3.out.mid
     · have HDO := Lh (show shortR r c n = match fdR r c.fd with | none => (failA 220, r) | some x => throughR r c x n.toNat from by unfold shortR; rw [if_neg (by rw [HK.out]; omega)]; rfl)
       obtain ⟨z, hz⟩ : ∃ z : Nat, n = (z : Int) := ⟨n.toNat, by omega⟩
       subst hz
       rw [Int.toNat_natCast] at HDO
       have hzs : z ≤ c.d.size := by omega
       rcases first_find (fdP c.fd) r.fds with ⟨h1, h2⟩ | ⟨i, x, h1, h2, _, h3, _⟩
       · have HFD := Lh (fun W (hW : DocAt W Q r) => h1 ▸ r22fd Q r c.fd W hW (by have := HF.out.1.fds; omega))
         have HR := Lh (show shortR r c (z : Int) = (failA 220, r) from by rw [HDO.out, show fdR r c.fd = none from h2])
         clear h1 h2
         go_wp2_with fail
         refine (HFD.out _ F2.out.doc).mono ?_
         rintro e w5 ⟨rfl, rfl⟩
         clear a0 a1 a2 a3 a4 a5 a6
         go_wp2_with fail
         refine (r22fail _ _).mono ?_
         rintro e WF ⟨rfl, hb⟩
         have F3 := Lh (F2.out.below hb)
         clear hb F2
         obtain ⟨_, _, _, _, _, _, _, _, _, _, _, _, _, _, _, _, _, _, _, _⟩ := row10_all F3.out.ans
         unfold failV anV Stt.zero
         go_wp2_with fail
         refine fin10 Tryz.results28 rfl rfl F3.out.ans ?_
         · rw [HR.out]
           refine OpD.all ?_ rfl rfl
           refine ⟨rfl, Q, ?_, rfl⟩
           repeat (refine DMid.other ?_ F3.out.nz (by omega) _ _)
           exact F3.out.mid
       · have HFD := Lh (fun W (hW : DocAt W Q r) => h1 ▸ r22fd Q r c.fd W hW (by have := HF.out.1.fds; omega))
         have HTH := Lh (fun W (hW : DocAt W Q r) => r22through Q r c x i z W hW HF.out.1 h1 h2 hzs HF.out.2)
         have HR := Lh (show shortR r c (z : Int) = throughR r c x z from by rw [HDO.out, show fdR r c.fd = some x from h3])
         have HLS := Lh (nols_through r c x z)
         have hi0 : ¬ (i : Int) < 0 := by omega
         clear h1 h2 h3
         go_wp2_with fail
         refine (HFD.out _ F2.out.doc).mono ?_
         rintro e w5 ⟨rfl, rfl⟩
         go_wp2_with fail
         refine (HTH.out _ F2.out.doc).mono ?_
         rintro e W5 ⟨rfl, Q5, hm5, hb5⟩
         have F5 := Lh (F2.out.then hm5)
         have HB5 := Lh hb5
         have HS5 := Lh F2.out.size
         clear hm5 hb5 F2 a0 a1 a2 a3 a4 a5 a6 HTH HFD
         have hsz := F5.out.size
         generalize throughR r c x z = p at *
         obtain ⟨_, _, _, _, _, _, _, _, _, _, _, _, _, _, _, _, _, _, _, _⟩ := row10_all F5.out.ans
         unfold ansC
         go_wp2_with fail
         refine fin10 Tryz.results28 rfl rfl F5.out.ans ?_
         · rw [HR.out]
           refine OpD.all ?_ HLS.out.1 HLS.out.2
           refine ⟨rfl, Q5, ?_, HB5.out⟩
           repeat (refine DMid.other ?_ F5.out.nz (by omega) _ _)
           exact F5.out.mid
 · have b4 : (c.k != 4) = true := by rw [bne_iff_ne]; exact k4
   have b4' : (c.k == 4) = false := by rw [beq_eq_false_iff_ne]; exact k4
   have HR := Lh (show shortR r c n = (failA 2, r) from if_pos (.inl k4))
   clear k4 a1 a2 a3 a4 a6
   go_wp2_with fail
   refine (r22fail _ _).mono ?_
   rintro e WF ⟨rfl, hb⟩
   have F3 := Lh (F2.out.below hb)
   clear hb F2
   obtain ⟨_, _, _, _, _, _, _, _, _, _, _, _, _, _, _, _, _, _, _, _⟩ := row10_all F3.out.ans
   unfold failV anV Stt.zero
   go_wp2_with fail
   refine fin10 Tryz.results28 rfl rfl F3.out.ans ?_
   · rw [HR.out]
     refine OpD.all ?_ rfl rfl
     refine ⟨rfl, Q, ?_, rfl⟩
     repeat (refine DMid.other ?_ F3.out.nz (by omega) _ _)
     exact F3.out.mid
end Go.Proofs.YtppdihpobokfnaaGreatDoor
