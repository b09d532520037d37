/- For every input the law glissadelaw13.NamesOne returns true; within the sizes that the law itself asks; else it returns true at once; a tied card: two package variables of unicode/utf8 are laid as the text lays them; the card speaks of a pruned copy of the project. -/
import Derived.BigQuiet
import Derived.Deep.QuietTactic
import Derived.Deep.RegionHeld3
import Derived.Laws.AppendOwnNone
import Derived.SevenTiedAt
import Derived.Test.YtlhkfpenfbakkaaDoorNamLaw2
import Derived.Test.YtlhkfpenfbakkaaDoorGotStrs
import Derived.Test.YtlhkfpenfbakkaaDoorTie
import Derived.Test.YtlhkfpenfbakkaaDoorCards
import Derived.Test.YtlhkfpenfbakkaaDoorFrameL
set_option linter.unusedVariables false
set_option linter.unusedSimpArgs false
set_option maxRecDepth 100000
namespace Go.Proofs.YtlhkfpenfbakkaaDoor
open Go.RowKit Go.Joins

theorem split_list (s : ByteArray) : ∃ (m : List ByteArray) (z : Int), splitP (bts s) = (m.map bts, z) := by
  refine ⟨(splitP (bts s)).1.map tx, (splitP (bts s)).2, Prod.ext ?_ rfl⟩
  rw [List.map_map]
  have : (bts ∘ tx) = id := funext fun l => tx_bts l
  rw [this]; simp
theorem split_short {s : ByteArray} {m : List ByteArray} {z : Int} (h : splitP (bts s) = (m.map bts, z)) : m.length ≤ 16 := by
  rcases splitP_two (bts s) with h2 | h2 | h2
  · have h3 := splitP_ok h2
    rw [h] at h3
    have := h3.1.2.1
    simpa using this
  · rw [h] at h2
    injection h2 with h2 _
    have := congrArg List.length h2
    rw [List.length_map, List.length_nil] at this
    omega
  · rw [h] at h2
    injection h2 with h2 _
    have := congrArg List.length h2
    rw [List.length_map, List.length_nil] at this
    omega

theorem bts_slash (s : ByteArray) : bts (⟨#[47]⟩ ++ s) = 47 :: bts s := by simp [bts]
theorem path_one {x : List UInt8} (h : nmOk x = true) : PathOk [x] ∧ pathS [x] = 47 :: x := by
  have h2 := (nmOk_iff.1 h).2.1
  have e : pathS [x] = 47 :: x := by simp [pathS, flat]
  exact ⟨⟨by simp [h], by simp, by rw [e]; simp; omega⟩, e⟩
theorem one_back {x : List UInt8} (h : nmOk x = false) {m : List ByteArray} {z : Int} (hm : splitP (47 :: x) = (m.map bts, z)) : z ≠ 0 ∨ m.length ≠ 1 := by
  by_cases hz : z = 0
  · right
    subst hz
    obtain ⟨k1, k2⟩ := splitP_ok hm
    intro hl
    cases m with
    | nil => simp at hl
    | cons y m =>
      have : m = [] := List.length_eq_zero_iff.1 (by simpa using hl)
      subst this
      rw [List.map_cons, List.map_nil] at k1 k2
      have e : pathS [bts y] = 47 :: bts y := by simp [pathS, flat]
      rw [e] at k2
      injection k2 with _ k2
      have := k1.1
      rw [List.all_cons, ← k2, h] at this
      cases this
  · exact .inl hz

set_option maxHeartbeats 8000000 in
theorem walk_namesOne (w : World) (s : ByteArray) (hsz : s.size ≤ 140737488351232) :
    Calls Tryd.prog 8 #[.string s] w fun e w' => e = .returned (.bool true) ∧ Below w.heap.size w w' := by
  have B0 : Below w.heap.size w w := Below.refl _ _
  clear hsz
  by_cases h1 : 2000 < s.size
  · have h1' : (2000 : Int) < (s.size : Int) := by omega
    go_enter Tryd.func8, Tryd.ntmps8
    go_wp2_with fail
    go_ret
    exact ⟨rfl, B0⟩
  have h1' : ¬ (2000 : Int) < (s.size : Int) := by omega
  have hm1 : ¬ maxLen < (⟨#[47]⟩ : ByteArray).size + s.size := by
    have : (⟨#[47]⟩ : ByteArray).size = 1 := rfl
    rw [this]; unfold maxLen; omega
  have hm2 : ¬ maxLen < 1 + s.size := by unfold maxLen; omega
  have kk : s.toList = bts s := Lib.toList_data s
  cases hn : nmOk (bts s) with
  | true =>
    obtain ⟨k1, k2⟩ := path_one hn
    have HS := Lib.hid (fun W => csplit_is (s := ⟨#[47]⟩ ++ s) (m := [s]) (z := 0) (by rw [bts_slash, ← k2]; exact splitP_path k1) W)
    have HJP := Lib.hid (show joinP (([s] : List ByteArray).map bts) = (47 :: bts s, 0) from by rw [← k2]; exact joinP_path k1)
    have hj1 : tx (47 :: bts s) = ⟨#[47]⟩ ++ s := bts_ext (by rw [tx_bts, bts_slash])
    obtain ⟨n1, n2, _⟩ := nmOk_iff.1 hn
    rw [bts_length] at n1 n2
    have p1 : (0 : Int) < (s.size : Int) := by omega
    have p2 : (s.size : Int) ≤ 32 := by omega
    have HJ1 := Lib.hid hj1
    clear k1 k2 hj1
    by_cases hc : bts s ≠ [46] ∧ bts s ≠ [46, 46]
    · have HC := Lib.hid (fun W => ccheck_any s W)
      rw [show checkP (bts s) = 0 from if_pos ⟨hn, hc.1, hc.2⟩] at HC
      clear hn hc kk n1 n2
      go_enter Tryd.func8, Tryd.ntmps8
      go_wp2_with fail
      refine (HS.out _).mono ?_
      rintro e w1 ⟨⟨a1, c1, rfl, h11, h12, hn1⟩, hb1⟩
      have B1 := below_chain B0 hb1 B0.size
      have HN1 := Lib.hid hn1
      have hbA : Below w1.heap.size w1 (w1.alloc (.cells #[.string s] 9)) := (Below.refl _ _).alloc (Nat.le_refl _) _
      have BA := below_chain B1 hbA B1.size
      have HNA := Lib.hid (HN1.out.below hbA (Nat.le_refl _))
      have hj := cjoin_any (some ⟨w1.heap.size, 0, none⟩) 1 [s] (w1.alloc (.cells #[.string s] 9)) (.inr ⟨w1.heap.size, 0, rfl, valAt_row (rowAt_alloc w1 #[.string s] 9)⟩) (Nat.le_refl _) (by rw [flat_size]; simp; omega)
      unfold JoinR at hj
      rw [HJP.out] at hj
      simp only [HJ1.out] at hj
      have HJ := Lib.hid hj
      clear hj hbA hb1 B0 B1 hn1 HN1 HS
      go_wp2_with fail
      refine HJ.out.mono ?_
      rintro e w2 ⟨rfl, hb2⟩
      have B2 := below_chain BA hb2 BA.size
      have HN2 := Lib.hid (HNA.out.below hb2 (Nat.le_refl _))
      clear hb2 BA HNA HJ
      go_wp2_with fail
      refine (HC.out _).mono ?_
      rintro e w3 ⟨rfl, hb3⟩
      have B3 := below_chain B2 hb3 B2.size
      have HN3 := Lib.hid (HN2.out.below hb3 (Nat.le_refl _))
      clear hb3 B2 HN2 HC
      have hbC : Below w3.heap.size w3 (w3.alloc (.cells #[.string s] 9)) := (Below.refl _ _).alloc (Nat.le_refl _) _
      have BC := below_chain B3 hbC B3.size
      have hsm := same13 a1 (some ⟨w3.heap.size, 0, none⟩) c1 1 [s] (w3.alloc (.cells #[.string s] 9)) (by simp) (HN3.out.vals.below hbC (Nat.le_refl _)) (.inr ⟨w3.heap.size, 0, rfl, valAt_row (rowAt_alloc w3 #[.string s] 9)⟩)
      have HSm : Hid (Calls Tryd.prog 13 #[.slice a1 1 c1, .slice (some ⟨w3.heap.size, 0, none⟩) 1 1] (w3.alloc (.cells #[.string s] 9)) fun e w' => e = .returned (.bool true) ∧ Below (w3.alloc (.cells #[.string s] 9)).heap.size (w3.alloc (.cells #[.string s] 9)) w') := hsm
      clear hsm hbC B3 HN3
      go_wp2_with fail
      refine HSm.out.mono ?_
      rintro e w4 ⟨rfl, hb4⟩
      have BB := below_chain BC hb4 BC.size
      clear hb4 BC HSm
      go_wp2_with fail
      refine (alive13 _).mono ?_
      rintro e w7 ⟨rfl, hb7⟩
      have B7 := below_chain BB hb7 BB.size
      go_wp2_with fail
      go_ret
      exact ⟨rfl, B7⟩
    · have HC := Lib.hid (fun W => ccheck_any s W)
      rw [show checkP (bts s) = 130 from if_neg (fun h => hc ⟨h.2.1, h.2.2⟩)] at HC
      have hd : s.toList = [46] ∨ s.toList = [46, 46] := by
        rw [kk]
        by_cases d1 : bts s = [46]
        · exact .inl d1
        · by_cases d2 : bts s = [46, 46]
          · exact .inr d2
          · exact absurd ⟨d1, d2⟩ hc
      have HD := Lib.hid hd
      clear hn hc kk n1 n2 hd
      go_enter Tryd.func8, Tryd.ntmps8
      go_wp2_with fail
      refine (HS.out _).mono ?_
      rintro e w1 ⟨⟨a1, c1, rfl, h11, h12, hn1⟩, hb1⟩
      have B1 := below_chain B0 hb1 B0.size
      have HN1 := Lib.hid hn1
      have hbA : Below w1.heap.size w1 (w1.alloc (.cells #[.string s] 9)) := (Below.refl _ _).alloc (Nat.le_refl _) _
      have BA := below_chain B1 hbA B1.size
      have HNA := Lib.hid (HN1.out.below hbA (Nat.le_refl _))
      have hj := cjoin_any (some ⟨w1.heap.size, 0, none⟩) 1 [s] (w1.alloc (.cells #[.string s] 9)) (.inr ⟨w1.heap.size, 0, rfl, valAt_row (rowAt_alloc w1 #[.string s] 9)⟩) (Nat.le_refl _) (by rw [flat_size]; simp; omega)
      unfold JoinR at hj
      rw [HJP.out] at hj
      simp only [HJ1.out] at hj
      have HJ := Lib.hid hj
      clear hj hbA hb1 B0 B1 hn1 HN1 HS
      go_wp2_with fail
      refine HJ.out.mono ?_
      rintro e w2 ⟨rfl, hb2⟩
      have B2 := below_chain BA hb2 BA.size
      have HN2 := Lib.hid (HNA.out.below hb2 (Nat.le_refl _))
      clear hb2 BA HNA HJ
      go_wp2_with fail
      refine (HC.out _).mono ?_
      rintro e w3 ⟨rfl, hb3⟩
      have B3 := below_chain B2 hb3 B2.size
      have HN3 := Lib.hid (HN2.out.below hb3 (Nat.le_refl _))
      clear hb3 B2 HN2 HC
      have BB := B3
      clear B3 HN3
      rcases HD.out with hd | hd
      all_goals
        go_wp2_with fail
        refine (alive13 _).mono ?_
        rintro e w7 ⟨rfl, hb7⟩
        have B7 := below_chain BB hb7 BB.size
        go_wp2_with fail
        go_ret
        exact ⟨rfl, B7⟩
  | false =>
    obtain ⟨m, z, hm⟩ := split_list (⟨#[47]⟩ ++ s)
    have HS := Lib.hid (fun W => csplit_is hm W)
    rw [bts_slash] at hm
    have hb := one_back hn hm
    have HJP := Lib.hid (show joinP (([s] : List ByteArray).map bts) = ([], 130) from joinP_no (by simp [hn]))
    have HC := Lib.hid (fun W => ccheck_any s W)
    rw [show checkP (bts s) = 130 from if_neg (fun h => by rw [hn] at h; cases h.1)] at HC
    have HB := Lib.hid hb
    clear hn hm hb kk
    go_enter Tryd.func8, Tryd.ntmps8
    go_wp2_with fail
    refine (HS.out _).mono ?_
    rintro e w1 ⟨⟨a1, c1, rfl, h11, h12, hn1⟩, hb1⟩
    have B1 := below_chain B0 hb1 B0.size
    have HN1 := Lib.hid hn1
    have hbA : Below w1.heap.size w1 (w1.alloc (.cells #[.string s] 9)) := (Below.refl _ _).alloc (Nat.le_refl _) _
    have BA := below_chain B1 hbA B1.size
    have HNA := Lib.hid (HN1.out.below hbA (Nat.le_refl _))
    have hj := cjoin_any (some ⟨w1.heap.size, 0, none⟩) 1 [s] (w1.alloc (.cells #[.string s] 9)) (.inr ⟨w1.heap.size, 0, rfl, valAt_row (rowAt_alloc w1 #[.string s] 9)⟩) (Nat.le_refl _) (by rw [flat_size]; simp; omega)
    unfold JoinR at hj
    rw [HJP.out] at hj
    rw [show tx ([] : List UInt8) = ⟨#[]⟩ from rfl] at hj
    have HJ := Lib.hid hj
    clear hj hbA hb1 B0 B1 hn1 HN1 HS
    go_wp2_with fail
    refine HJ.out.mono ?_
    rintro e w2 ⟨rfl, hb2⟩
    have B2 := below_chain BA hb2 BA.size
    have HN2 := Lib.hid (HNA.out.below hb2 (Nat.le_refl _))
    clear hb2 BA HNA HJ
    go_wp2_with fail
    refine (HC.out _).mono ?_
    rintro e w3 ⟨rfl, hb3⟩
    have B3 := below_chain B2 hb3 B2.size
    have HN3 := Lib.hid (HN2.out.below hb3 (Nat.le_refl _))
    clear hb3 B2 HN2 HC
    have BB := B3
    clear B3 HN3
    by_cases hz : z = 0
    · subst hz
      have hl : ((m.length : Int) != 1) = true := by
        rw [bne_iff_ne]
        rcases HB.out with h | h
        · exact absurd rfl h
        · omega
      go_wp2_with fail
      refine (alive13 _).mono ?_
      rintro e w7 ⟨rfl, hb7⟩
      have B7 := below_chain BB hb7 BB.size
      go_wp2_with fail
      go_ret
      exact ⟨rfl, B7⟩
    · have q1 : (z != 0) = true := by rw [bne_iff_ne]; exact hz
      clear hz
      go_wp2_with fail
      refine (alive13 _).mono ?_
      rintro e w7 ⟨rfl, hb7⟩
      have B7 := below_chain BB hb7 BB.size
      go_wp2_with fail
      go_ret
      exact ⟨rfl, B7⟩

/-! ### the frame (printed by mklaw.py) -/

set_option maxRecDepth 100000 in
theorem lifted_namesOne (os : Os) (started : os.Started) (H : Type) (enc : TypeId × Value → H) :
    ReturnsInHanded {} Tryd.checked os 8 .any (fun w args => (Rows.namesOneSpec.pre enc Tryd.prog Tryd.f8 Rows.namesOneRow.domain false w args ∧ laidMetH Tryd.prog Rows.namesOneRow.laid w) ∧ sizedMet enc Tryd.prog Tryd.f8 (OpenSpec.ofChange Rows.namesOneSpec) false w args) (Rows.namesOneSpec.post enc Tryd.prog Tryd.f8 false true false false) := by
  refine law_step_laid (C := Tryd.checked) (tb := 4) (by kernel_rfl) (by kernel_rfl) started (by kernel_rfl) Tryd.func8 rfl Tryd.underlying4 rfl ?_ ?_
    (ChangeSpec.witness_shaped (enc := enc) (C := Tryd.checked) (os := os) (X := fun w _ => laidMetH Tryd.prog Rows.namesOneRow.laid w) false (World.laidAll Tryd.prog os Rows.namesOneRow.laid) #[.string ByteArray.empty] 8 (World.laidAll_os _ _ _)
      (World.shaped_of_ZipB (by kernel_rfl) (by kernel_rfl)) (by kernel_rfl) (by kernel_rfl) (by kernel_rfl)
      (by rw [MakeChecks.laidMetH_plain _ _ _ (by kernel_rfl)]; exact laidMet_laidAll _ (by kernel_rfl) (by kernel_rfl))) ?_
  · intro ds hl
    match ds, hl with
    | [d0], _ => rfl
  · intro t ht
    rw [show Tryd.f8.params.toList = [9] from by rw [Tryd.params8]] at ht
    simp only [List.mem_cons, List.not_mem_nil, or_false] at ht
    rcases ht with rfl
    · exact ⟨by kernel_rfl, of_decide_eq_true (by kernel_rfl)⟩
  · intro W args hG
    rw [show Tryd.f8.params.toList = [9] from by rw [Tryd.params8]] at hG
    obtain ⟨v0, rfl, g0⟩ := gotAll_args1 hG
    obtain ⟨a0, rfl, b0⟩ := got_string Tryd.underlying9 g0
    exact walk_namesOne W a0 b0

theorem namesOne_over : Rows.namesOneRow.holds Tryd.pinned (OpenSpec.ofChange Rows.namesOneSpec) :=
  OpenClaim.holds_of_wide 8 Tryd.f8 rfl rfl rfl rfl rfl rfl rfl ⟨rfl, rfl, rfl, rfl, rfl⟩ rfl rfl rfl rfl rfl (by kernel_rfl) Tryd.func8 (by kernel_rfl)
    (of_decide_eq_true (by kernel_rfl)) (by unfold Func.isWrapper; first | (rw [if_pos (by decide +kernel)]; kernel_rfl) | (rw [if_neg (by decide +kernel)]; exact ⟨rfl, rfl⟩))
    (fun os started H enc _ => lifted_namesOne os started H enc)

theorem namesOne_holds : Rows.NamesOneCardSaid :=
  Claim7.holds_tied_plain_at .later [] [.data, .pinned] true (true, "0b2efbb8c5e64fd6dce629912144b1bf5c6fe063e2a189094e2917efd15ad8c6") false namesOne_over (fun _ h => by cases h) (by kernel_rfl) (fun _ h => by cases h) namesOne_row_tie rfl ⟨rfl, rfl⟩ (by kernel_rfl) rfl
    (fun f fn hf hfn => by
      obtain rfl : f = 8 := Option.some.inj ((show Tryd.prog.funcNamed "glissade/glissadelaw13.NamesOne" = some 8 by kernel_rfl).symm.trans hf) |>.symm
      obtain rfl : fn = Tryd.f8 := (Option.some.inj (Tryd.func8.symm.trans hfn)).symm
      exact ⟨by kernel_rfl, fun j t ht => by
        rw [Tryd.params8] at ht
        have hm : t ∈ [9] := by simpa using Array.mem_of_getElem? ht
        have hall : ([9].all fun u => !Tryd.prog.wantsStandIn u) = true := by kernel_rfl
        exact (show Tryd.prog.wantsStandIn t = false by simpa using List.all_eq_true.1 hall t hm)⟩)
    (by kernel_rfl)
#print axioms namesOne_holds

end Go.Proofs.YtlhkfpenfbakkaaDoor
