/- For every input the law glissadelaw22.ModelRefuses returns true; within the numbers of calls that the law itself asks; else it returns true at once; a tied card: two package variables of unicode/utf8 are laid as the text lays them; the card speaks of a pruned copy of the project. -/
import Derived.BigQuiet
import Derived.Deep.QuietTactic
import Derived.Deep.RegionHeld3
import Derived.SevenTiedAt
import Derived.Test.YtppdihpobokfnaaGreatDoorModW42
import Derived.Test.YtppdihpobokfnaaGreatDoorGJ
import Derived.Test.YtppdihpobokfnaaGreatDoorTie
import Derived.Test.YtppdihpobokfnaaGreatDoorCards
import Derived.Test.YtppdihpobokfnaaGreatDoorGBase
set_option linter.unusedVariables false
set_option linter.unusedSimpArgs false
set_option maxRecDepth 100000
namespace Go.Proofs.YtppdihpobokfnaaGreatDoor
open Go.RowKit Go.Joins

theorem valG_call (W : World) (c : Cl) (t : TypeId) : ValG (W.alloc (.cells #[.int .i64 c.k, .string c.p, .string c.o, .int .i64 c.fd, .int .i64 c.n, .string c.d, .bool c.on] t)) (some ⟨W.heap.size, 0, none⟩) 7 ([c].map callC) := valG_new W (callC c) t

set_option maxHeartbeats 16000000 in
theorem walk_modelRefuses (w : World) (a : Option Addr) (cap : Nat) (l : List Cl) (hle : l.length ≤ cap) (hcm : cap ≤ maxLen) (hV : ValG w a 7 (l.map callC)) (hQ : ∀ c ∈ l, ClOk c) (c : Cl) (hc : ClOk c) :
    Calls Tryz.prog 6 #[.slice a l.length cap, .agg #[.int .i64 c.k, .string c.p, .string c.o, .int .i64 c.fd, .int .i64 c.n, .string c.d, .bool c.on]] w fun e w' => e = .returned (.bool true) ∧ Below w.heap.size w w' := by
  have HOK := Lib.hid hc
  have hr := rowAt_alloc w #[.int .i64 c.k, .string c.p, .string c.o, .int .i64 c.fd, .int .i64 c.n, .string c.d, .bool c.on] 36
  have B := (Below.refl w.heap.size w).alloc (Nat.le_refl _) (.cells #[.int .i64 c.k, .string c.p, .string c.o, .int .i64 c.fd, .int .i64 c.n, .string c.d, .bool c.on] 36)
  have HBY := Lib.hid (beyond22 a cap l 40 3000 _ (by omega) (by omega) (by omega) (hV.below B))
  have HV := Lib.hid (And.intro (hV.below B) hQ)
  have HV0 := Lib.hid hV
  have HC := Lib.hid (show RowAt (w.alloc (.cells #[.int .i64 c.k, .string c.p, .string c.o, .int .i64 c.fd, .int .i64 c.n, .string c.d, .bool c.on] 36)) w.heap.size (callC c) ∧ Below w.heap.size w (w.alloc (.cells #[.int .i64 c.k, .string c.p, .string c.o, .int .i64 c.fd, .int .i64 c.n, .string c.d, .bool c.on] 36)) from ⟨hr, B⟩)
  clear hle hcm hV hQ hr B hc
  go_enter Tryz.func6, Tryz.ntmps6
  go_upto_region 1 with fail
  generalize w.alloc (.cells #[.int .i64 c.k, .string c.p, .string c.o, .int .i64 c.fd, .int .i64 c.n, .string c.d, .bool c.on] 36) = W1 at *
  go_wp2_with fail
  refine HBY.out.mono ?_
  rintro e W2 ⟨⟨b, rfl, hlen⟩, hb⟩
  have HLEN := Lib.hid hlen
  have H2 := Lib.hid (And.intro (HC.out.1.below hb HC.out.1.lt) (HC.out.2.trans (hb.mono HC.out.2.size)))
  have HV2 := Lib.hid (And.intro (HV.out.1.below hb) HV.out.2)
  clear hlen hb HBY HC HV
  cases b with
  | true =>
    go_wp2_with fail
    refine (lives22 _).mono ?_
    rintro e W9 ⟨rfl, hb⟩
    have B9 := Lib.hid (H2.out.2.trans (hb.mono H2.out.2.size))
    clear hb
    go_wp2_with fail
    go_ret
    exact ⟨rfl, B9.out⟩
  | false =>
    have HL := Lib.hid (HLEN.out rfl)
    clear HLEN
    have HBY := Lib.hid (beyond22 (some ⟨W2.heap.size, 0, none⟩) 1 [c] 1 3000 (W2.alloc (.cells #[.int .i64 c.k, .string c.p, .string c.o, .int .i64 c.fd, .int .i64 c.n, .string c.d, .bool c.on] 36)) (by simp [maxLen]) (by omega) (by omega) (valG_call W2 c _))
    have hb : Below W2.heap.size W2 (W2.alloc (.cells #[.int .i64 c.k, .string c.p, .string c.o, .int .i64 c.fd, .int .i64 c.n, .string c.d, .bool c.on] 36)) := (Below.refl W2.heap.size W2).alloc (Nat.le_refl _) _
    obtain ⟨a0, a1, a2, a3, a4, a5, a6⟩ := row7_cells H2.out.1
    go_wp2_with fail
    clear a0 a1 a2 a3 a4 a5 a6
    refine HBY.out.mono ?_
    rintro e W3 ⟨⟨b, rfl, _⟩, hb3⟩
    have hb3 : Below W2.heap.size W2 W3 := hb.trans (hb3.mono hb.size)
    have H3 := Lib.hid (And.intro (H2.out.1.below hb3 H2.out.1.lt) (H2.out.2.trans (hb3.mono H2.out.2.size)))
    have HV3 := Lib.hid (And.intro (HV2.out.1.below hb3) HV2.out.2)
    clear hb hb3 HBY H2 HV2
    cases b with
    | true =>
      go_wp2_with fail
      refine (lives22 _).mono ?_
      rintro e W9 ⟨rfl, hb⟩
      have B9 := Lib.hid (H3.out.2.trans (hb.mono H3.out.2.size))
      clear hb
      go_wp2_with fail
      go_ret
      exact ⟨rfl, B9.out⟩
    | false =>
      have HPL := Lib.hid (lv_played (w := w) (W := W3) H3.out.2 12 ⟨by omega, by omega⟩ a cap l HV0.out HV3.out.2 (by have := HL.out; omega) [(w.heap.size, callC c)] (fun p hp => by rw [List.mem_singleton.1 hp]; exact H3.out.1))
      go_wp2_with fail
      refine HPL.out.mono ?_
      rintro e W4 ⟨MB, rw0, rfl, hL, hsub⟩
      obtain ⟨N, m, hN, hL⟩ : ∃ N m, N ≤ 1000 ∧ Lv w MB N W4 m rw0 := ⟨_, _, by have := HL.out; omega, hL⟩
      have L := Lib.hid (show (Lv w MB N W4 m rw0 ∧ (w.heap.size, callC c) ∈ rw0) ∧ N ≤ 1000 from ⟨⟨hL, hsub _ (by simp)⟩, hN⟩)
      clear hL hN hsub HPL HL HV3 HV0 H3
      try clear W1 W2 W3
      -- what is seen, and what is open
      have HDO := Lib.hid (lv_view L.out.1.1 (by have := L.out.2; omega))
      go_wp2_with fail
      refine HDO.out.mono ?_
      clear HDO
      rintro e W5 ⟨av, cv, rw1, rfl, hL, hsub, hg⟩
      have L1 := Lib.hid (show ((Lv w MB N W5 m rw1 ∧ (w.heap.size, callC c) ∈ rw1) ∧ GIn rw1 av itC (viewP m)) ∧ N ≤ 1000 from ⟨⟨⟨hL, hsub _ L.out.1.2⟩, hg⟩, L.out.2⟩)
      clear hL hsub hg L
      try clear W4
      have HDO := Lib.hid (lv_open2 L1.out.1.1.1 (by have := L1.out.2; omega))
      go_wp2_with fail
      refine HDO.out.mono ?_
      clear HDO
      rintro e W6 ⟨ao, co, rw2, rfl, hL, hsub, hg⟩
      have L2 := Lib.hid (show (((Lv w MB N W6 m rw2 ∧ (w.heap.size, callC c) ∈ rw2) ∧ GIn rw2 av itC (viewP m)) ∧ GIn rw2 ao opC (openedP m)) ∧ N ≤ 1000 from ⟨⟨⟨⟨hL, hsub _ L1.out.1.1.2⟩, L1.out.1.2.more hsub⟩, hg⟩, L1.out.2⟩)
      clear hL hsub hg L1
      try clear W5
      -- the call
      obtain ⟨a0, a1, a2, a3, a4, a5, a6⟩ := row7_cells (L2.out.1.1.1.1.row L2.out.1.1.1.2)
      have HDO := Lib.hid (lv_do L2.out.1.1.1.1 (by have := L2.out.2; omega) c HOK.out.wf)
      have HRF := Lib.hid (Refused.doP (L2.out.1.1.1.1.inv.good (by have := L2.out.2; omega)) c)
      go_wp2_with fail
      refine HDO.out.mono ?_
      clear HDO a0 a1 a2 a3 a4 a5 a6
      rintro e W7 ⟨na, la, nc, lc, rw3, rfl, hL, hsub, hns, hls⟩
      obtain ⟨A, hA⟩ : ∃ A, A = doP m c := ⟨_, rfl⟩
      rw [← hA] at hL hns hls HRF ⊢
      clear hA
      obtain ⟨⟨Ae, Anu, Ad, Ans, Ast, Al⟩, Am⟩ := A
      simp only at hL hns hls HRF ⊢
      unfold ansC
      by_cases c2 : Ae = 0
      · subst c2
        have B := Lib.hid hL.below
        clear hL hsub hns hls HRF L2
        obtain ⟨b1, hb1⟩ : ∃ b, b = W7.heap.size := ⟨_, rfl⟩
        have hr := rowAt_alloc W7 #[.int .i64 0, .int .i64 Anu, .string (tx Ad), .slice na Ans.length nc, .int .i64 Ast.kind, .int .i64 Ast.size, .int .i64 Ast.links, .bool Ast.pin, .slice la Al.length lc, .bool false] 33
        have B2 := Lib.hid (B.out.alloc B.out.size (.cells #[.int .i64 0, .int .i64 Anu, .string (tx Ad), .slice na Ans.length nc, .int .i64 Ast.kind, .int .i64 Ast.size, .int .i64 Ast.links, .bool Ast.pin, .slice la Al.length lc, .bool false] 33))
        rw [← hb1] at hr
        go_upto_region 8 with fail
        rw [← hb1]
        generalize W7.alloc (.cells #[.int .i64 0, .int .i64 Anu, .string (tx Ad), .slice na Ans.length nc, .int .i64 Ast.kind, .int .i64 Ast.size, .int .i64 Ast.links, .bool Ast.pin, .slice la Al.length lc, .bool false] 33) = W8 at *
        have x0 : W8.cell? ⟨b1, 0, none⟩ = some (.int .i64 0) := hr.cell 0 (by simp)
        clear hr hb1
        go_wp2_with fail
        refine (lives22 _).mono ?_
        rintro e W9 ⟨rfl, hb⟩
        have B9 := Lib.hid (B2.out.trans (hb.mono B2.out.size))
        clear hb
        go_wp2_with fail
        go_ret
        exact ⟨rfl, B9.out⟩
      · have hrf := HRF.out c2
        simp only [failA, An.zero, Stt.zero, Prod.mk.injEq, An.mk.injEq, true_and] at hrf
        obtain ⟨⟨h1, h2, h3, h4, h5⟩, h6⟩ := hrf
        subst h1 h2 h3 h4 h5 h6
        clear HRF hns hls
        have htx : tx [] = ⟨#[]⟩ := rfl
        simp only [htx, List.length_nil]
        obtain ⟨b1, hb1⟩ : ∃ b, b = W7.heap.size := ⟨_, rfl⟩
        have hW := hL.alloc #[.int .i64 Ae, .int .i64 0, .string ⟨#[]⟩, .slice na 0 nc, .int .i64 0, .int .i64 0, .int .i64 0, .bool false, .slice la 0 lc, .bool false] 33
        rw [← hb1] at hW
        go_upto_region 8 with fail
        rw [← hb1]
        generalize W7.alloc (.cells #[.int .i64 Ae, .int .i64 0, .string ⟨#[]⟩, .slice na 0 nc, .int .i64 0, .int .i64 0, .int .i64 0, .bool false, .slice la 0 lc, .bool false] 33) = W8 at *
        obtain ⟨rs, hrs⟩ : ∃ rs, rs = (b1, [.int .i64 Ae, .int .i64 0, .string ⟨#[]⟩, .slice na 0 nc, .int .i64 0, .int .i64 0, .int .i64 0, .bool false, .slice la 0 lc, .bool false]) :: rw3 := ⟨_, rfl⟩
        have L3 := Lib.hid (show (((Lv w MB (N + 1) W8 Am rs ∧ (b1, [.int .i64 Ae, .int .i64 0, .string ⟨#[]⟩, .slice na 0 nc, .int .i64 0, .int .i64 0, .int .i64 0, .bool false, .slice la 0 lc, .bool false]) ∈ rs) ∧ GIn rs av itC (viewP Am)) ∧ GIn rs ao opC (openedP Am)) ∧ N ≤ 1000 from
          ⟨⟨⟨⟨by rw [hrs]; exact hW, by rw [hrs]; exact List.mem_cons_self ..⟩, L2.out.1.1.2.more (fun p hp => by rw [hrs]; exact List.mem_cons_of_mem _ (hsub p hp))⟩, L2.out.1.2.more (fun p hp => by rw [hrs]; exact List.mem_cons_of_mem _ (hsub p hp))⟩, L2.out.2⟩)
        clear hW hrs hb1 hL hsub L2
        try clear W7
        try clear rw3
        have x0 : W8.cell? ⟨b1, 0, none⟩ = some (.int .i64 Ae) := (L3.out.1.1.1.1.row L3.out.1.1.1.2).cell 0 (by simp)
        have x1 : W8.cell? ⟨b1, 1, none⟩ = some (.int .i64 0) := (L3.out.1.1.1.1.row L3.out.1.1.1.2).cell 1 (by simp)
        have x2 : W8.cell? ⟨b1, 2, none⟩ = some (.string ⟨#[]⟩) := (L3.out.1.1.1.1.row L3.out.1.1.1.2).cell 2 (by simp)
        have x3 : W8.cell? ⟨b1, 3, none⟩ = some (.slice na 0 nc) := (L3.out.1.1.1.1.row L3.out.1.1.1.2).cell 3 (by simp)
        have x4 : W8.cell? ⟨b1, 4, none⟩ = some (.int .i64 0) := (L3.out.1.1.1.1.row L3.out.1.1.1.2).cell 4 (by simp)
        have x5 : W8.cell? ⟨b1, 5, none⟩ = some (.int .i64 0) := (L3.out.1.1.1.1.row L3.out.1.1.1.2).cell 5 (by simp)
        have x6 : W8.cell? ⟨b1, 6, none⟩ = some (.int .i64 0) := (L3.out.1.1.1.1.row L3.out.1.1.1.2).cell 6 (by simp)
        have x7 : W8.cell? ⟨b1, 7, none⟩ = some (.bool false) := (L3.out.1.1.1.1.row L3.out.1.1.1.2).cell 7 (by simp)
        have x8 : W8.cell? ⟨b1, 8, none⟩ = some (.slice la 0 lc) := (L3.out.1.1.1.1.row L3.out.1.1.1.2).cell 8 (by simp)
        have x9 : W8.cell? ⟨b1, 9, none⟩ = some (.bool false) := (L3.out.1.1.1.1.row L3.out.1.1.1.2).cell 9 (by simp)
        have c2' : (Ae == 0) = false := by simpa using c2
        have c2'' : decide (Ae = 0) = false := by simpa using c2
        go_wp2_with fail
        refine (same_answer Ae 0 ⟨#[]⟩ 0 0 0 false [] [] na none la none nc 0 lc 0 _ (by simp) (by simp) (.inl rfl) (.inl rfl) (.inl rfl) (.inl rfl)).mono ?_
        rintro e W9 ⟨rfl, hb⟩
        have L4 := Lib.hid (show (Lv w MB (N + 1) W9 Am rs ∧ GIn rs av itC (viewP Am)) ∧ GIn rs ao opC (openedP Am) from ⟨⟨L3.out.1.1.1.1.under hb, L3.out.1.1.2⟩, L3.out.1.2⟩)
        have HN := Lib.hid L3.out.2
        clear L3 hb x0 x1 x2 x3 x4 x5 x6 x7 x8 x9
        try clear W8
        have HDO := Lib.hid (lv_view L4.out.1.1 (by have := HN.out; omega))
        go_wp2_with fail
        refine HDO.out.mono ?_
        clear HDO
        rintro e W10 ⟨av2, cv2, rw5, rfl, hL, hsub, hg⟩
        have L5 := Lib.hid (show ((Lv w MB (N + 1) W10 Am rw5 ∧ GIn rw5 av itC (viewP Am)) ∧ GIn rw5 ao opC (openedP Am)) ∧ GIn rw5 av2 itC (viewP Am) from ⟨⟨⟨hL, L4.out.1.2.more hsub⟩, L4.out.2.more hsub⟩, hg⟩)
        clear hL hsub hg L4
        try clear W9
        have hlen := Lib.hid (show (viewP Am).length ≤ 1000000 by have := view_len L5.out.1.1.1.inv; have := HN.out; omega)
        go_wp2_with fail
        refine (same_view av2 av cv2 cv (viewP Am) _ hlen.out (L5.out.1.1.1.valG itC_len L5.out.2) (L5.out.1.1.1.valG itC_len L5.out.1.1.2)).mono ?_
        rintro e W11 ⟨rfl, hb⟩
        have L6 := Lib.hid (show Lv w MB (N + 1) W11 Am rw5 ∧ GIn rw5 ao opC (openedP Am) from ⟨L5.out.1.1.1.under hb, L5.out.1.2⟩)
        clear hb L5
        try clear W10
        have HDO := Lib.hid (lv_open2 L6.out.1 (by have := HN.out; omega))
        go_wp2_with fail
        refine HDO.out.mono ?_
        clear HDO
        rintro e W12 ⟨ao2, co2, rw6, rfl, hL, hsub, hg⟩
        have L7 := Lib.hid (show (Lv w MB (N + 1) W12 Am rw6 ∧ GIn rw6 ao opC (openedP Am)) ∧ GIn rw6 ao2 opC (openedP Am) from ⟨⟨hL, L6.out.2.more hsub⟩, hg⟩)
        clear hL hsub hg L6
        try clear W11
        have hlen2 := Lib.hid (show (openedP Am).length ≤ 1000000 by have := opened_len Am; omega)
        go_wp2_with fail
        refine (same_opened ao2 ao co2 co (openedP Am) _ hlen2.out (L7.out.1.1.valG (fun _ => rfl) L7.out.2) (L7.out.1.1.valG (fun _ => rfl) L7.out.1.2)).mono ?_
        rintro e W13 ⟨rfl, hb⟩
        have B := Lib.hid (L7.out.1.1.under hb).below
        clear hb L7
        try clear W12
        go_wp2_with fail
        refine (lives22 _).mono ?_
        rintro e W14 ⟨rfl, hb⟩
        have B9 := Lib.hid (B.out.trans (hb.mono B.out.size))
        clear hb
        go_wp2_with fail
        go_ret
        exact ⟨rfl, B9.out⟩

/-! ### the frame (printed by mklaw.py) -/

set_option maxRecDepth 100000 in
theorem lifted_modelRefuses (os : Os) (started : os.Started) (H : Type) (enc : TypeId × Value → H) :
    ReturnsInHanded {} Tryz.checked os 6 .any (fun w args => (Rows.modelRefusesSpec.pre enc Tryz.prog Tryz.f6 Rows.modelRefusesRow.domain false w args ∧ laidMetH Tryz.prog Rows.modelRefusesRow.laid w) ∧ sizedMet enc Tryz.prog Tryz.f6 (OpenSpec.ofChange Rows.modelRefusesSpec) false w args) (Rows.modelRefusesSpec.post enc Tryz.prog Tryz.f6 false true false false) := by
  refine law_step_laid (C := Tryz.checked) (tb := 4) (by kernel_rfl) (by kernel_rfl) started (by kernel_rfl) Tryz.func6 rfl Tryz.underlying4 rfl ?_ ?_
    (ChangeSpec.witness_shaped (enc := enc) (C := Tryz.checked) (os := os) (X := fun w _ => laidMetH Tryz.prog Rows.modelRefusesRow.laid w) false (World.laidAll Tryz.prog os Rows.modelRefusesRow.laid) #[.slice none 0 0, .agg #[.int .i64 0, .string ByteArray.empty, .string ByteArray.empty, .int .i64 0, .int .i64 0, .string ByteArray.empty, .bool false]] 8 (World.laidAll_os _ _ _)
      (World.shaped_of_ZipB (by kernel_rfl) (by kernel_rfl)) (by kernel_rfl) (by kernel_rfl) (by kernel_rfl)
      (by rw [MakeChecks.laidMetH_plain _ _ _ (by kernel_rfl)]; exact laidMet_laidAll _ (by kernel_rfl) (by kernel_rfl))) ?_
  · intro ds hl
    match ds, hl with
    | [d0, d1], _ => rfl
  · intro t ht
    rw [show Tryz.f6.params.toList = [22, 36] from by rw [Tryz.params6]] at ht
    simp only [List.mem_cons, List.not_mem_nil, or_false] at ht
    rcases ht with rfl | rfl
    · exact ⟨by kernel_rfl, of_decide_eq_true (by kernel_rfl)⟩
    · exact ⟨by kernel_rfl, of_decide_eq_true (by kernel_rfl)⟩
  · intro W args hG
    rw [show Tryz.f6.params.toList = [22, 36] from by rw [Tryz.params6]] at hG
    obtain ⟨v0, v1, rfl, g0, g1⟩ := gotAll_args2 hG
    obtain ⟨a0, cap0, l0, rfl, hle0, hcm0, hV0, hQ0⟩ := got_calls g0
    obtain ⟨c1, rfl, hc1⟩ := got_call g1
    exact walk_modelRefuses W a0 cap0 l0 hle0 hcm0 hV0 hQ0 c1 hc1

theorem modelRefuses_over : Rows.modelRefusesRow.holds Tryz.pinned (OpenSpec.ofChange Rows.modelRefusesSpec) :=
  OpenClaim.holds_of_wide 6 Tryz.f6 rfl rfl rfl rfl rfl rfl rfl ⟨rfl, rfl, rfl, rfl, rfl⟩ rfl rfl rfl rfl rfl (by kernel_rfl) Tryz.func6 (by kernel_rfl)
    (of_decide_eq_true (by kernel_rfl)) (by unfold Func.isWrapper; first | (rw [if_pos (by decide +kernel)]; kernel_rfl) | (rw [if_neg (by decide +kernel)]; exact ⟨rfl, rfl⟩))
    (fun os started H enc _ => lifted_modelRefuses os started H enc)

theorem modelRefuses_holds : Rows.ModelRefusesCardSaid :=
  Claim7.holds_tied_plain_at .later [] [.data, .pinned] true (true, "a2858bb3599f325511a5ea6afc3cb64a7205ceb57b21c251972803503bc7930f") true modelRefuses_over (fun _ h => by cases h) (by kernel_rfl) (fun _ h => by cases h) modelRefuses_row_tie rfl ⟨rfl, rfl⟩ (by kernel_rfl) rfl
    (fun f fn hf hfn => by
      obtain rfl : f = 6 := Option.some.inj ((show Tryz.prog.funcNamed "glissade/glissadelaw22.ModelRefuses" = some 6 by kernel_rfl).symm.trans hf) |>.symm
      obtain rfl : fn = Tryz.f6 := (Option.some.inj (Tryz.func6.symm.trans hfn)).symm
      exact ⟨by kernel_rfl, fun j t ht => by
        rw [Tryz.params6] at ht
        have hm : t ∈ [22, 36] := by simpa using Array.mem_of_getElem? ht
        have hall : ([22, 36].all fun u => !Tryz.prog.wantsStandIn u) = true := by kernel_rfl
        exact (show Tryz.prog.wantsStandIn t = false by simpa using List.all_eq_true.1 hall t hm)⟩)
    (by kernel_rfl)
#print axioms modelRefuses_holds

end Go.Proofs.YtppdihpobokfnaaGreatDoor
