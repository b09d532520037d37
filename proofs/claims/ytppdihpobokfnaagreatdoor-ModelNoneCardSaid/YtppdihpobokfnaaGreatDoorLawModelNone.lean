/- For every input the law glissadelaw22.ModelNone returns true; within the numbers of calls that the law itself asks; else it returns true at once; a tied card: two package variables of unicode/utf8 are laid as the text lays them; the card speaks of a pruned copy of the project. -/
import Derived.BigQuiet
import Derived.Deep.QuietTactic
import Derived.Deep.RegionHeld3
import Derived.SevenTiedAt
import Derived.Test.YtppdihpobokfnaaGreatDoorGJ
import Derived.Test.YtppdihpobokfnaaGreatDoorTie
import Derived.Test.YtppdihpobokfnaaGreatDoorCards
import Derived.Test.YtppdihpobokfnaaGreatDoorGBase
set_option linter.unusedVariables false
set_option linter.unusedSimpArgs false
set_option maxRecDepth 100000
namespace Go.Proofs.YtppdihpobokfnaaGreatDoor
open Go.RowKit Go.Joins

theorem valG_call (W : World) (c : Cl) (t : TypeId) : ValG (W.alloc (.cells #[.int .i64 c.k, .string c.p, .string c.o, .int .i64 c.fd, .int .i64 c.n, .string c.d, .bool c.on] t)) (some ⟨W.heap.size, 0, none⟩) 7 ([c].map callC) := valG_new W (callC c) t

set_option maxHeartbeats 16000000 in
theorem walk_modelNone (w : World) (c : Cl) (hc : ClOk c) (n : Int) (hn0 : -9223372036854775808 ≤ n) (hn1 : n ≤ 9223372036854775807) :
    Calls Tryz.prog 11 #[.agg #[.int .i64 c.k, .string c.p, .string c.o, .int .i64 c.fd, .int .i64 c.n, .string c.d, .bool c.on], .int .i64 n] w fun e w' => e = .returned (.bool true) ∧ Below w.heap.size w w' := by
  have HOK := Lib.hid hc
  have hr := rowAt_alloc w #[.int .i64 c.k, .string c.p, .string c.o, .int .i64 c.fd, .int .i64 c.n, .string c.d, .bool c.on] 36
  have B := (Below.refl w.heap.size w).alloc (Nat.le_refl _) (.cells #[.int .i64 c.k, .string c.p, .string c.o, .int .i64 c.fd, .int .i64 c.n, .string c.d, .bool c.on] 36)
  have HC := Lib.hid (show RowAt (w.alloc (.cells #[.int .i64 c.k, .string c.p, .string c.o, .int .i64 c.fd, .int .i64 c.n, .string c.d, .bool c.on] 36)) w.heap.size (callC c) ∧ Below w.heap.size w (w.alloc (.cells #[.int .i64 c.k, .string c.p, .string c.o, .int .i64 c.fd, .int .i64 c.n, .string c.d, .bool c.on] 36)) from ⟨hr, B⟩)
  clear hr B hc
  go_enter Tryz.func11, Tryz.ntmps11
  go_upto_region 1 with fail
  generalize w.alloc (.cells #[.int .i64 c.k, .string c.p, .string c.o, .int .i64 c.fd, .int .i64 c.n, .string c.d, .bool c.on] 36) = W1 at *
  have HBY := Lib.hid (beyond22 (some ⟨W1.heap.size, 0, none⟩) 1 [c] 1 3000 (W1.alloc (.cells #[.int .i64 c.k, .string c.p, .string c.o, .int .i64 c.fd, .int .i64 c.n, .string c.d, .bool c.on] 36)) (by simp [maxLen]) (by omega) (by omega) (valG_call W1 c _))
  have hb : Below W1.heap.size W1 (W1.alloc (.cells #[.int .i64 c.k, .string c.p, .string c.o, .int .i64 c.fd, .int .i64 c.n, .string c.d, .bool c.on] 36)) := (Below.refl W1.heap.size W1).alloc (Nat.le_refl _) _
  obtain ⟨a0, a1, a2, a3, a4, a5, a6⟩ := row7_cells HC.out.1
  go_wp2_with fail
  have H2 := Lib.hid (And.intro (HC.out.1.below hb HC.out.1.lt) (HC.out.2.trans (hb.mono HC.out.2.size)))
  clear hb HC
  try clear a0 a1 a2 a3 a4 a5 a6
  have HC := H2
  clear H2
  obtain ⟨a0, a1, a2, a3, a4, a5, a6⟩ := row7_cells HC.out.1
  refine HBY.out.mono ?_
  rintro e W2 ⟨⟨b, rfl, _⟩, hb⟩
  clear HBY
  have H2 := Lib.hid (And.intro (HC.out.1.below hb HC.out.1.lt) (HC.out.2.trans (hb.mono HC.out.2.size)))
  clear hb HC
  try clear a0 a1 a2 a3 a4 a5 a6
  have HC := H2
  clear H2
  obtain ⟨a0, a1, a2, a3, a4, a5, a6⟩ := row7_cells HC.out.1
  cases b with
  | true =>
    go_wp2_with fail
    refine (lives22 _).mono ?_
    rintro e W3 ⟨rfl, hb⟩
    have H2 := Lib.hid (And.intro (HC.out.1.below hb HC.out.1.lt) (HC.out.2.trans (hb.mono HC.out.2.size)))
    clear hb HC
    try clear a0 a1 a2 a3 a4 a5 a6
    have HC := H2
    clear H2
    go_wp2_with fail
    go_ret
    exact ⟨rfl, HC.out.2⟩
  | false =>
    go_wp2_with fail
    refine wp_loop_rounds 3 ?_
    rw [rounds_succ]
    have HN := Lib.hid (noneP_nil W2)
    obtain ⟨a0, a1, a2, a3, a4, a5, a6⟩ := row7_cells HC.out.1
    go_wp2_with fail
    refine (do_none none c n _ HN.out).mono ?_
    rintro e W3 ⟨rfl, hb⟩
    have HN2 := Lib.hid (HN.out.below hb)
    clear HN
    have HN := HN2
    clear HN2
    have H2 := Lib.hid (And.intro (HC.out.1.below hb HC.out.1.lt) (HC.out.2.trans (hb.mono HC.out.2.size)))
    clear hb HC
    try clear a0 a1 a2 a3 a4 a5 a6
    have HC := H2
    clear H2
    obtain ⟨a0, a1, a2, a3, a4, a5, a6⟩ := row7_cells HC.out.1
    unfold ansC
    go_wp2_with fail
    refine (same_answer 1 0 ⟨#[]⟩ 0 0 0 false [] [] none none none none 0 0 0 0 _ (by simp) (by simp) (.inl rfl) (.inl rfl) (.inl rfl) (.inl rfl)).mono ?_
    rintro e W4 ⟨rfl, hb⟩
    have HN2 := Lib.hid (HN.out.below hb)
    clear HN
    have HN := HN2
    clear HN2
    have H2 := Lib.hid (And.intro (HC.out.1.below hb HC.out.1.lt) (HC.out.2.trans (hb.mono HC.out.2.size)))
    clear hb HC
    try clear a0 a1 a2 a3 a4 a5 a6
    have HC := H2
    clear H2
    obtain ⟨a0, a1, a2, a3, a4, a5, a6⟩ := row7_cells HC.out.1
    go_wp2_with fail
    refine (short_none none c n _ HN.out).mono ?_
    rintro e W5 ⟨rfl, hb⟩
    have HN2 := Lib.hid (HN.out.below hb)
    clear HN
    have HN := HN2
    clear HN2
    have H2 := Lib.hid (And.intro (HC.out.1.below hb HC.out.1.lt) (HC.out.2.trans (hb.mono HC.out.2.size)))
    clear hb HC
    try clear a0 a1 a2 a3 a4 a5 a6
    have HC := H2
    clear H2
    obtain ⟨a0, a1, a2, a3, a4, a5, a6⟩ := row7_cells HC.out.1
    unfold ansC
    go_wp2_with fail
    refine (same_answer 1 0 ⟨#[]⟩ 0 0 0 false [] [] none none none none 0 0 0 0 _ (by simp) (by simp) (.inl rfl) (.inl rfl) (.inl rfl) (.inl rfl)).mono ?_
    rintro e W6 ⟨rfl, hb⟩
    have HN2 := Lib.hid (HN.out.below hb)
    clear HN
    have HN := HN2
    clear HN2
    have H2 := Lib.hid (And.intro (HC.out.1.below hb HC.out.1.lt) (HC.out.2.trans (hb.mono HC.out.2.size)))
    clear hb HC
    try clear a0 a1 a2 a3 a4 a5 a6
    have HC := H2
    clear H2
    obtain ⟨a0, a1, a2, a3, a4, a5, a6⟩ := row7_cells HC.out.1
    go_wp2_with fail
    refine (view_none none _ HN.out).mono ?_
    rintro e W7 ⟨rfl, hb⟩
    have HN2 := Lib.hid (HN.out.below hb)
    clear HN
    have HN := HN2
    clear HN2
    have H2 := Lib.hid (And.intro (HC.out.1.below hb HC.out.1.lt) (HC.out.2.trans (hb.mono HC.out.2.size)))
    clear hb HC
    try clear a0 a1 a2 a3 a4 a5 a6
    have HC := H2
    clear H2
    obtain ⟨a0, a1, a2, a3, a4, a5, a6⟩ := row7_cells HC.out.1
    go_wp2_with fail
    refine (opened_none none _ HN.out).mono ?_
    rintro e W8 ⟨rfl, hb⟩
    have HN2 := Lib.hid (HN.out.below hb)
    clear HN
    have HN := HN2
    clear HN2
    have H2 := Lib.hid (And.intro (HC.out.1.below hb HC.out.1.lt) (HC.out.2.trans (hb.mono HC.out.2.size)))
    clear hb HC
    try clear a0 a1 a2 a3 a4 a5 a6
    have HC := H2
    clear H2
    obtain ⟨a0, a1, a2, a3, a4, a5, a6⟩ := row7_cells HC.out.1
    go_wp2_with fail
    refine (clone_none none _ HN.out).mono ?_
    rintro e W9 ⟨rfl, hb⟩
    have HN2 := Lib.hid (HN.out.below hb)
    clear HN
    have HN := HN2
    clear HN2
    have H2 := Lib.hid (And.intro (HC.out.1.below hb HC.out.1.lt) (HC.out.2.trans (hb.mono HC.out.2.size)))
    clear hb HC
    try clear a0 a1 a2 a3 a4 a5 a6
    have HC := H2
    clear H2
    obtain ⟨a0, a1, a2, a3, a4, a5, a6⟩ := row7_cells HC.out.1
    go_wp2_with fail
    refine (again_none none _ HN.out).mono ?_
    rintro e W10 ⟨rfl, hb⟩
    have HN2 := Lib.hid (HN.out.below hb)
    clear HN
    have HN := HN2
    clear HN2
    have H2 := Lib.hid (And.intro (HC.out.1.below hb HC.out.1.lt) (HC.out.2.trans (hb.mono HC.out.2.size)))
    clear hb HC
    try clear a0 a1 a2 a3 a4 a5 a6
    have HC := H2
    clear H2
    obtain ⟨a0, a1, a2, a3, a4, a5, a6⟩ := row7_cells HC.out.1
    clear HN
    go_wp2_with fail
    have hz : (W10.alloc (.cells #[.bool false, .int .i64 0, .map none, .int .i64 0, .pointer none] 66)).cell? ⟨W10.heap.size, 0, none⟩ = some (.bool false) := (rowAt_alloc W10 #[.bool false, .int .i64 0, .map none, .int .i64 0, .pointer none] 66).cell 0 (by simp)
    have hzl : W10.heap.size < (W10.alloc (.cells #[.bool false, .int .i64 0, .map none, .int .i64 0, .pointer none] 66)).heap.size := by simp
    have hb : Below W10.heap.size W10 (W10.alloc (.cells #[.bool false, .int .i64 0, .map none, .int .i64 0, .pointer none] 66)) := (Below.refl W10.heap.size W10).alloc (Nat.le_refl _) _
    have H2 := Lib.hid (And.intro (HC.out.1.below hb HC.out.1.lt) (HC.out.2.trans (hb.mono HC.out.2.size)))
    clear hb HC
    try clear a0 a1 a2 a3 a4 a5 a6
    have HC := H2
    clear H2
    have HZ := Lib.hid (noneP_zero hzl hz)
    clear hz hzl
    generalize W10.alloc (.cells #[.bool false, .int .i64 0, .map none, .int .i64 0, .pointer none] 66) = W11 at *
    rw [rounds_succ]
    have HN := Lib.hid (HZ.out)
    obtain ⟨a0, a1, a2, a3, a4, a5, a6⟩ := row7_cells HC.out.1
    go_wp2_with fail
    refine (do_none (some ⟨W10.heap.size, 0, none⟩) c n _ HN.out).mono ?_
    rintro e W12 ⟨rfl, hb⟩
    have HN2 := Lib.hid (HN.out.below hb)
    clear HN
    have HN := HN2
    clear HN2
    have H2 := Lib.hid (And.intro (HC.out.1.below hb HC.out.1.lt) (HC.out.2.trans (hb.mono HC.out.2.size)))
    clear hb HC
    try clear a0 a1 a2 a3 a4 a5 a6
    have HC := H2
    clear H2
    obtain ⟨a0, a1, a2, a3, a4, a5, a6⟩ := row7_cells HC.out.1
    unfold ansC
    go_wp2_with fail
    refine (same_answer 1 0 ⟨#[]⟩ 0 0 0 false [] [] none none none none 0 0 0 0 _ (by simp) (by simp) (.inl rfl) (.inl rfl) (.inl rfl) (.inl rfl)).mono ?_
    rintro e W13 ⟨rfl, hb⟩
    have HN2 := Lib.hid (HN.out.below hb)
    clear HN
    have HN := HN2
    clear HN2
    have H2 := Lib.hid (And.intro (HC.out.1.below hb HC.out.1.lt) (HC.out.2.trans (hb.mono HC.out.2.size)))
    clear hb HC
    try clear a0 a1 a2 a3 a4 a5 a6
    have HC := H2
    clear H2
    obtain ⟨a0, a1, a2, a3, a4, a5, a6⟩ := row7_cells HC.out.1
    go_wp2_with fail
    refine (short_none (some ⟨W10.heap.size, 0, none⟩) c n _ HN.out).mono ?_
    rintro e W14 ⟨rfl, hb⟩
    have HN2 := Lib.hid (HN.out.below hb)
    clear HN
    have HN := HN2
    clear HN2
    have H2 := Lib.hid (And.intro (HC.out.1.below hb HC.out.1.lt) (HC.out.2.trans (hb.mono HC.out.2.size)))
    clear hb HC
    try clear a0 a1 a2 a3 a4 a5 a6
    have HC := H2
    clear H2
    obtain ⟨a0, a1, a2, a3, a4, a5, a6⟩ := row7_cells HC.out.1
    unfold ansC
    go_wp2_with fail
    refine (same_answer 1 0 ⟨#[]⟩ 0 0 0 false [] [] none none none none 0 0 0 0 _ (by simp) (by simp) (.inl rfl) (.inl rfl) (.inl rfl) (.inl rfl)).mono ?_
    rintro e W15 ⟨rfl, hb⟩
    have HN2 := Lib.hid (HN.out.below hb)
    clear HN
    have HN := HN2
    clear HN2
    have H2 := Lib.hid (And.intro (HC.out.1.below hb HC.out.1.lt) (HC.out.2.trans (hb.mono HC.out.2.size)))
    clear hb HC
    try clear a0 a1 a2 a3 a4 a5 a6
    have HC := H2
    clear H2
    obtain ⟨a0, a1, a2, a3, a4, a5, a6⟩ := row7_cells HC.out.1
    go_wp2_with fail
    refine (view_none (some ⟨W10.heap.size, 0, none⟩) _ HN.out).mono ?_
    rintro e W16 ⟨rfl, hb⟩
    have HN2 := Lib.hid (HN.out.below hb)
    clear HN
    have HN := HN2
    clear HN2
    have H2 := Lib.hid (And.intro (HC.out.1.below hb HC.out.1.lt) (HC.out.2.trans (hb.mono HC.out.2.size)))
    clear hb HC
    try clear a0 a1 a2 a3 a4 a5 a6
    have HC := H2
    clear H2
    obtain ⟨a0, a1, a2, a3, a4, a5, a6⟩ := row7_cells HC.out.1
    go_wp2_with fail
    refine (opened_none (some ⟨W10.heap.size, 0, none⟩) _ HN.out).mono ?_
    rintro e W17 ⟨rfl, hb⟩
    have HN2 := Lib.hid (HN.out.below hb)
    clear HN
    have HN := HN2
    clear HN2
    have H2 := Lib.hid (And.intro (HC.out.1.below hb HC.out.1.lt) (HC.out.2.trans (hb.mono HC.out.2.size)))
    clear hb HC
    try clear a0 a1 a2 a3 a4 a5 a6
    have HC := H2
    clear H2
    obtain ⟨a0, a1, a2, a3, a4, a5, a6⟩ := row7_cells HC.out.1
    go_wp2_with fail
    refine (clone_none (some ⟨W10.heap.size, 0, none⟩) _ HN.out).mono ?_
    rintro e W18 ⟨rfl, hb⟩
    have HN2 := Lib.hid (HN.out.below hb)
    clear HN
    have HN := HN2
    clear HN2
    have H2 := Lib.hid (And.intro (HC.out.1.below hb HC.out.1.lt) (HC.out.2.trans (hb.mono HC.out.2.size)))
    clear hb HC
    try clear a0 a1 a2 a3 a4 a5 a6
    have HC := H2
    clear H2
    obtain ⟨a0, a1, a2, a3, a4, a5, a6⟩ := row7_cells HC.out.1
    go_wp2_with fail
    refine (again_none (some ⟨W10.heap.size, 0, none⟩) _ HN.out).mono ?_
    rintro e W19 ⟨rfl, hb⟩
    have HN2 := Lib.hid (HN.out.below hb)
    clear HN
    have HN := HN2
    clear HN2
    have H2 := Lib.hid (And.intro (HC.out.1.below hb HC.out.1.lt) (HC.out.2.trans (hb.mono HC.out.2.size)))
    clear hb HC
    try clear a0 a1 a2 a3 a4 a5 a6
    have HC := H2
    clear H2
    obtain ⟨a0, a1, a2, a3, a4, a5, a6⟩ := row7_cells HC.out.1
    clear HN
    go_wp2_with fail
    have hb : Below W19.heap.size W19 (W19.alloc (.cells #[.bool false, .int .i64 0, .map none, .int .i64 0, .pointer none] 66)) := (Below.refl W19.heap.size W19).alloc (Nat.le_refl _) _
    have H2 := Lib.hid (And.intro (HC.out.1.below hb HC.out.1.lt) (HC.out.2.trans (hb.mono HC.out.2.size)))
    clear hb HC
    try clear a0 a1 a2 a3 a4 a5 a6
    have HC := H2
    clear H2
    generalize W19.alloc (.cells #[.bool false, .int .i64 0, .map none, .int .i64 0, .pointer none] 66) = W20 at *
    rw [rounds_succ]
    have HP := Lib.hid (lv_played HC.out.2 8 ⟨by omega, by omega⟩ none 0 [] (.inl rfl) (fun c hc => by cases hc) (by simp) [(w.heap.size, callC c)] (fun p hp => by rw [List.mem_singleton.1 hp]; exact HC.out.1))
    clear HC HZ
    go_wp2_with fail
    refine HP.out.mono ?_
    rintro e W21 ⟨MB, rw', rfl, hL, hsub⟩
    have L := Lib.hid (And.intro hL (hsub _ (List.mem_singleton.2 rfl)))
    clear hL hsub HP
    by_cases hr : 1 ≤ n ∧ n ≤ 20
    · obtain ⟨r1, r2⟩ := hr
      go_wp2_with fail
      refine (lives22 _).mono ?_
      rintro e W22 ⟨rfl, hb⟩
      have B := Lib.hid (L.out.1.below.trans (hb.mono L.out.1.below.size))
      clear hb
      go_wp2_with fail
      go_ret
      exact ⟨rfl, B.out⟩
    · have hrow := L.out.1.row L.out.2
      have LS := Lib.hid (L.out.1.store L.out.2 (Nat.le_refl _) 0 (.int .i64 n))
      have hm1 : (w.heap.size, callC { c with k := n }) ∈ (w.heap.size, (callC c).set 0 (.int .i64 n)) :: rw'.filter fun p => !(p.1 == w.heap.size) := List.mem_cons_self ..
      have HM := Lib.hid hm1
      obtain ⟨a0, a1, a2, a3, a4, a5, a6⟩ := row7_cells hrow
      have f0 := hrow.frozen 0 (by simp [callC])
      have hdo : doP (playP (newP 8) []) { c with k := n } = (failA 2, playP (newP 8) []) := by
        unfold doP
        simp only []
        split <;> first | rfl | (exfalso; omega)
      have HD := Lib.hid hdo
      have hr' : n < 1 ∨ 20 < n := by omega
      clear hr hrow hm1 hdo
      rcases hr' with hr | hr
      · have r1 : ¬ (1 : Int) ≤ n := by omega
        go_upto_region 17 with fail
        generalize W21.setCell ⟨w.heap.size, 0, none⟩ (.int .i64 n) = W22 at *
        clear a0 a1 a2 a3 a4 a5 a6 f0
        obtain ⟨a0, a1, a2, a3, a4, a5, a6⟩ := row7_cells (LS.out.row HM.out)
        have hcall := lv_do LS.out (by simp) { c with k := n } (WalkArith.wf_i64 ⟨hn0, hn1⟩)
        rw [HD.out] at hcall
        have HCL := Lib.hid hcall
        clear hcall
        go_wp2_with fail
        refine HCL.out.mono ?_
        rintro e W23 ⟨na, la, nc, lc, rs, rfl, hL, _, hns, hls⟩
        have hA1 := LsIn.val hL hns
        have hB1 := LsIn.val hL hls
        have L3 := Lib.hid hL
        have HS := Lib.hid (same_answer 2 0 ⟨#[]⟩ 0 0 0 false [] [] na none la none nc 0 lc 0 W23 (by simp) (by simp) hA1 (.inl rfl) hB1 (.inl rfl))
        clear hL hns hls hA1 hB1 HCL
        unfold ansC failA An.zero Stt.zero
        go_wp2_with fail
        refine HS.out.mono ?_
        rintro e W24 ⟨rfl, hb⟩
        have B := Lib.hid (L3.out.below.trans (hb.mono L3.out.below.size))
        clear hb HS
        go_wp2_with fail
        refine (lives22 _).mono ?_
        rintro e W25 ⟨rfl, hb⟩
        have B2 := Lib.hid (B.out.trans (hb.mono B.out.size))
        clear hb
        go_wp2_with fail
        go_ret
        exact ⟨rfl, B2.out⟩
      · have r1 : (1 : Int) ≤ n := by omega
        have r2 : ¬ n ≤ (20 : Int) := by omega
        go_upto_region 17 with fail
        generalize W21.setCell ⟨w.heap.size, 0, none⟩ (.int .i64 n) = W22 at *
        clear a0 a1 a2 a3 a4 a5 a6 f0
        obtain ⟨a0, a1, a2, a3, a4, a5, a6⟩ := row7_cells (LS.out.row HM.out)
        have hcall := lv_do LS.out (by simp) { c with k := n } (WalkArith.wf_i64 ⟨hn0, hn1⟩)
        rw [HD.out] at hcall
        have HCL := Lib.hid hcall
        clear hcall
        go_wp2_with fail
        refine HCL.out.mono ?_
        rintro e W23 ⟨na, la, nc, lc, rs, rfl, hL, _, hns, hls⟩
        have hA1 := LsIn.val hL hns
        have hB1 := LsIn.val hL hls
        have L3 := Lib.hid hL
        have HS := Lib.hid (same_answer 2 0 ⟨#[]⟩ 0 0 0 false [] [] na none la none nc 0 lc 0 W23 (by simp) (by simp) hA1 (.inl rfl) hB1 (.inl rfl))
        clear hL hns hls hA1 hB1 HCL
        unfold ansC failA An.zero Stt.zero
        go_wp2_with fail
        refine HS.out.mono ?_
        rintro e W24 ⟨rfl, hb⟩
        have B := Lib.hid (L3.out.below.trans (hb.mono L3.out.below.size))
        clear hb HS
        go_wp2_with fail
        refine (lives22 _).mono ?_
        rintro e W25 ⟨rfl, hb⟩
        have B2 := Lib.hid (B.out.trans (hb.mono B.out.size))
        clear hb
        go_wp2_with fail
        go_ret
        exact ⟨rfl, B2.out⟩

/-! ### the frame (printed by mklaw.py) -/

set_option maxRecDepth 100000 in
theorem lifted_modelNone (os : Os) (started : os.Started) (H : Type) (enc : TypeId × Value → H) :
    ReturnsInHanded {} Tryz.checked os 11 .any (fun w args => (Rows.modelNoneSpec.pre enc Tryz.prog Tryz.f11 Rows.modelNoneRow.domain false w args ∧ laidMetH Tryz.prog Rows.modelNoneRow.laid w) ∧ sizedMet enc Tryz.prog Tryz.f11 (OpenSpec.ofChange Rows.modelNoneSpec) false w args) (Rows.modelNoneSpec.post enc Tryz.prog Tryz.f11 false true false false) := by
  refine law_step_laid (C := Tryz.checked) (tb := 4) (by kernel_rfl) (by kernel_rfl) started (by kernel_rfl) Tryz.func11 rfl Tryz.underlying4 rfl ?_ ?_
    (ChangeSpec.witness_shaped (enc := enc) (C := Tryz.checked) (os := os) (X := fun w _ => laidMetH Tryz.prog Rows.modelNoneRow.laid w) false (World.laidAll Tryz.prog os Rows.modelNoneRow.laid) #[.agg #[.int .i64 0, .string ByteArray.empty, .string ByteArray.empty, .int .i64 0, .int .i64 0, .string ByteArray.empty, .bool false], .int .i64 0] 8 (World.laidAll_os _ _ _)
      (World.shaped_of_ZipB (by kernel_rfl) (by kernel_rfl)) (by kernel_rfl) (by kernel_rfl) (by kernel_rfl)
      (by rw [MakeChecks.laidMetH_plain _ _ _ (by kernel_rfl)]; exact laidMet_laidAll _ (by kernel_rfl) (by kernel_rfl))) ?_
  · intro ds hl
    match ds, hl with
    | [d0, d1], _ => rfl
  · intro t ht
    rw [show Tryz.f11.params.toList = [36, 3] from by rw [Tryz.params11]] at ht
    simp only [List.mem_cons, List.not_mem_nil, or_false] at ht
    rcases ht with rfl | rfl
    · exact ⟨by kernel_rfl, of_decide_eq_true (by kernel_rfl)⟩
    · exact ⟨by kernel_rfl, of_decide_eq_true (by kernel_rfl)⟩
  · intro W args hG
    rw [show Tryz.f11.params.toList = [36, 3] from by rw [Tryz.params11]] at hG
    obtain ⟨v0, v1, rfl, g0, g1⟩ := gotAll_args2 hG
    obtain ⟨c0, rfl, hc0⟩ := got_call g0
    obtain ⟨a1, rfl, b1, c1⟩ := got_i64 Tryz.underlying3 g1
    exact walk_modelNone W c0 hc0 a1 b1 c1

theorem modelNone_over : Rows.modelNoneRow.holds Tryz.pinned (OpenSpec.ofChange Rows.modelNoneSpec) :=
  OpenClaim.holds_of_wide 11 Tryz.f11 rfl rfl rfl rfl rfl rfl rfl ⟨rfl, rfl, rfl, rfl, rfl⟩ rfl rfl rfl rfl rfl (by kernel_rfl) Tryz.func11 (by kernel_rfl)
    (of_decide_eq_true (by kernel_rfl)) (by unfold Func.isWrapper; first | (rw [if_pos (by decide +kernel)]; kernel_rfl) | (rw [if_neg (by decide +kernel)]; exact ⟨rfl, rfl⟩))
    (fun os started H enc _ => lifted_modelNone os started H enc)

theorem modelNone_holds : Rows.ModelNoneCardSaid :=
  Claim7.holds_tied_plain_at .later [] [.data, .pinned] true (true, "a2858bb3599f325511a5ea6afc3cb64a7205ceb57b21c251972803503bc7930f") true modelNone_over (fun _ h => by cases h) (by kernel_rfl) (fun _ h => by cases h) modelNone_row_tie rfl ⟨rfl, rfl⟩ (by kernel_rfl) rfl
    (fun f fn hf hfn => by
      obtain rfl : f = 11 := Option.some.inj ((show Tryz.prog.funcNamed "glissade/glissadelaw22.ModelNone" = some 11 by kernel_rfl).symm.trans hf) |>.symm
      obtain rfl : fn = Tryz.f11 := (Option.some.inj (Tryz.func11.symm.trans hfn)).symm
      exact ⟨by kernel_rfl, fun j t ht => by
        rw [Tryz.params11] at ht
        have hm : t ∈ [36, 3] := by simpa using Array.mem_of_getElem? ht
        have hall : ([36, 3].all fun u => !Tryz.prog.wantsStandIn u) = true := by kernel_rfl
        exact (show Tryz.prog.wantsStandIn t = false by simpa using List.all_eq_true.1 hall t hm)⟩)
    (by kernel_rfl)
#print axioms modelNone_holds

end Go.Proofs.YtppdihpobokfnaaGreatDoor
