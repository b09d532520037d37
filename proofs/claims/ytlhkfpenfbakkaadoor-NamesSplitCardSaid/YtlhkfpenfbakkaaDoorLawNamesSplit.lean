/- For every input the law glissadelaw13.NamesSplit returns true; within the sizes that the law itself asks; else it returns true at once; a tied card: two package variables of unicode/utf8 are laid as the text lays them; the card speaks of a pruned copy of the project. -/
import Derived.BigQuiet
import Derived.Deep.QuietTactic
import Derived.Deep.RegionHeld3
import Derived.Laws.AppendOwnNone
import Derived.SevenTiedAt
import Derived.Test.YtlhkfpenfbakkaaDoorNamLaw2
import Derived.Test.YtlhkfpenfbakkaaDoorGotStrs
import Derived.Test.YtlhkfpenfbakkaaDoorTie
import Derived.Test.YtlhkfpenfbakkaaDoorCards
import Derived.Test.YtlhkfpenfbakkaaDoorFrameL
set_option linter.unusedVariables false
set_option linter.unusedSimpArgs false
set_option maxRecDepth 100000
namespace Go.Proofs.YtlhkfpenfbakkaaDoor
open Go.RowKit Go.Joins

theorem split_list (s : ByteArray) : ∃ (m : List ByteArray) (z : Int), splitP (bts s) = (m.map bts, z) := by
  refine ⟨(splitP (bts s)).1.map tx, (splitP (bts s)).2, Prod.ext ?_ rfl⟩
  rw [List.map_map]
  have : (bts ∘ tx) = id := funext fun l => tx_bts l
  rw [this]; simp
theorem split_short {s : ByteArray} {m : List ByteArray} {z : Int} (h : splitP (bts s) = (m.map bts, z)) : m.length ≤ 16 := by
  rcases splitP_two (bts s) with h2 | h2 | h2
  · have h3 := splitP_ok h2
    rw [h] at h3
    have := h3.1.2.1
    simpa using this
  · rw [h] at h2
    injection h2 with h2 _
    have := congrArg List.length h2
    rw [List.length_map, List.length_nil] at this
    omega
  · rw [h] at h2
    injection h2 with h2 _
    have := congrArg List.length h2
    rw [List.length_map, List.length_nil] at this
    omega

set_option maxHeartbeats 8000000 in
theorem walk_namesSplit (w : World) (s : ByteArray) (hsz : s.size ≤ 140737488351232) :
    Calls Tryd.prog 3 #[.string s] w fun e w' => e = .returned (.bool true) ∧ Below w.heap.size w w' := by
  have B0 : Below w.heap.size w w := Below.refl _ _
  clear hsz
  by_cases h1 : 5000 < s.size
  · have h1' : (5000 : Int) < (s.size : Int) := by omega
    go_enter Tryd.func3, Tryd.ntmps3
    go_wp2_with fail
    go_ret
    exact ⟨rfl, B0⟩
  have h1' : ¬ (5000 : Int) < (s.size : Int) := by omega
  obtain ⟨m, z, hm⟩ := split_list s
  have HML := Lib.hid (split_short hm)
  have HP := Lib.hid (fun W => csplit_is hm W)
  have HP2 := Lib.hid (fun W => rsplit_is hm (by omega) W)
  have HC1 := Lib.hid (fun W => ccheck_any s W)
  have HC2 := Lib.hid (fun W => rcheck_any s W)
  generalize checkP (bts s) = ck at *
  have hml : (m.length : Int) ≤ 300 := by have := HML.out; omega
  clear hm h1
  go_enter Tryd.func3, Tryd.ntmps3
  go_wp2_with fail
  refine (HP.out _).mono ?_
  rintro e w1 ⟨⟨a1, c1, rfl, h11, h12, hn1⟩, hb1⟩
  have B1 := below_chain B0 hb1 B0.size
  have HG1 : Hid (m = [] ∨ ∃ g, a1 = some ⟨g, 0, none⟩ ∧ w.heap.size ≤ g ∧ g < w1.heap.size) := by
    rcases hn1 with h | ⟨g, q1, q2, q3⟩
    · have h2 := congrArg List.length h
      rw [strs_len] at h2
      exact .inl (List.length_eq_zero_iff.1 (by simpa using h2))
    · exact .inr ⟨g, q1, q2, q3.lt⟩
  have HN1 := Lib.hid hn1
  clear hb1 B0 hn1
  go_wp2_with fail
  refine (HP2.out _).mono ?_
  rintro e w2 ⟨⟨a2, c2, rfl, h21, h22, hn2⟩, hb2⟩
  have B2 := below_chain B1 hb2 B1.size
  have HN1 := Lib.hid (HN1.out.below hb2 (Nat.le_refl _))
  have HN2 := Lib.hid hn2
  have hbw := B1.size
  clear hb2 B1 hn2 HP2
  go_wp2_with fail
  refine (HC1.out _).mono ?_
  rintro e w3 ⟨rfl, hb3⟩
  have B3 := below_chain B2 hb3 B2.size
  have HN1 := Lib.hid (HN1.out.below hb3 (Nat.le_refl _))
  have HN2 := Lib.hid (HN2.out.below hb3 (Nat.le_refl _))
  clear hb3 B2 HC1
  go_wp2_with fail
  refine (HC2.out _).mono ?_
  rintro e w4 ⟨rfl, hb4⟩
  have B4 := below_chain B3 hb4 B3.size
  have HN1 := Lib.hid (HN1.out.below hb4 (Nat.le_refl _))
  have HN2 := Lib.hid (HN2.out.below hb4 (Nat.le_refl _))
  have HSm := Lib.hid (same13 a1 a2 c1 c2 m w4 (by omega) HN1.out.vals HN2.out.vals)
  clear hb4 B3 HC2
  go_wp2_with fail
  refine HSm.out.mono ?_
  rintro e w5 ⟨rfl, hb5⟩
  have B5 := below_chain B4 hb5 B4.size
  have HN1 := Lib.hid (HN1.out.below hb5 (Nat.le_refl _))
  have HN2 := Lib.hid (HN2.out.below hb5 (Nat.le_refl _))
  clear hb5 B4 HSm
  go_wp2_with fail
  go_loopw [7] (fun jj wr => ∃ k : Nat, k ≤ m.length ∧ jj = .int .i64 k ∧ Hid (Below w.heap.size w wr ∧ (∃ xs, xs.length = m.length ∧ NewS wr w.heap.size a1 xs) ∧ NewS wr w1.heap.size a2 (strs m))) (fun jj _ => m.length - (intOf jj).toNat)
  case atStart => exact ⟨0, by omega, rfl, B5, ⟨_, strs_len m, HN1.out⟩, HN2.out⟩
  case round =>
    obtain ⟨k, hk, rfl, HG⟩ := hrel
    clear B5 HN1 HN2
    by_cases hlt : k < m.length
    · obtain ⟨xs, hxl, hx⟩ := HG.out.2.1
      obtain ⟨g, ha, hg, hgl⟩ : ∃ g, a1 = some ⟨g, 0, none⟩ ∧ w.heap.size ≤ g ∧ g < w1.heap.size := by
        rcases HG1.out with h | h
        · rw [h] at hlt; simp at hlt
        · exact h
      subst ha
      have hrow : RowAt wr g xs := by
        rcases hx with h | ⟨g', q1, _, q3⟩
        · rw [h] at hxl; simp at hxl; omega
        · injection q1 with q1
          injection q1 with q1
          rw [q1]; exact q3
      have HX := Lib.hid (And.intro hxl hrow)
      obtain ⟨v0, m0⟩ := hrow.there k (by omega)
      have z0 := hrow.frozen k (by omega)
      have i1 : (k : Int) < (m.length : Int) := by omega
      have i2 : (0 : Int) ≤ (k : Int) := by omega
      clear hx hrow hxl
      go_wp2_with fail
      go_roundw
      case rel => exact ⟨k + 1, by omega, by go_num, HG.out.1.setCell (p := ⟨g, k, none⟩) hg _, ⟨_, by rw [List.length_set]; exact HX.out.1, .inr ⟨g, rfl, hg, HX.out.2.set k _⟩⟩, HG.out.2.2.other ⟨g, k, none⟩ _ hgl⟩
      case measure => simp [intOf]; omega
    · obtain rfl : k = m.length := by omega
      have hnl : ¬ ((m.length : Int) < (m.length : Int)) := by omega
      have B8 := HG.out.1
      have HN2 := Lib.hid HG.out.2.2
      clear HG
      go_wp2_with fail
      refine (HP.out _).mono ?_
      rintro e w8 ⟨⟨a3, c3, rfl, h31, h32, hn3⟩, hb8⟩
      have B9 := below_chain B8 hb8 B8.size
      have HN2 := Lib.hid (HN2.out.below hb8 (Nat.le_refl _))
      have HSm := Lib.hid (same13 a3 a2 c3 c2 m w8 (by omega) hn3.vals HN2.out.vals)
      clear hb8 B8 hn3
      go_wp2_with fail
      refine HSm.out.mono ?_
      rintro e w9 ⟨rfl, hb9⟩
      have B10 := below_chain B9 hb9 B9.size
      clear hb9 B9 HSm
      go_wp2_with fail
      refine (alive13 _).mono ?_
      rintro e w10 ⟨rfl, hb10⟩
      have B11 := below_chain B10 hb10 B10.size
      go_wp2_with fail
      go_ret
      exact ⟨rfl, B11⟩

/-! ### the frame (printed by mklaw.py) -/

set_option maxRecDepth 100000 in
theorem lifted_namesSplit (os : Os) (started : os.Started) (H : Type) (enc : TypeId × Value → H) :
    ReturnsInHanded {} Tryd.checked os 3 .any (fun w args => (Rows.namesSplitSpec.pre enc Tryd.prog Tryd.f3 Rows.namesSplitRow.domain false w args ∧ laidMetH Tryd.prog Rows.namesSplitRow.laid w) ∧ sizedMet enc Tryd.prog Tryd.f3 (OpenSpec.ofChange Rows.namesSplitSpec) false w args) (Rows.namesSplitSpec.post enc Tryd.prog Tryd.f3 false true false false) := by
  refine law_step_laid (C := Tryd.checked) (tb := 4) (by kernel_rfl) (by kernel_rfl) started (by kernel_rfl) Tryd.func3 rfl Tryd.underlying4 rfl ?_ ?_
    (ChangeSpec.witness_shaped (enc := enc) (C := Tryd.checked) (os := os) (X := fun w _ => laidMetH Tryd.prog Rows.namesSplitRow.laid w) false (World.laidAll Tryd.prog os Rows.namesSplitRow.laid) #[.string ByteArray.empty] 8 (World.laidAll_os _ _ _)
      (World.shaped_of_ZipB (by kernel_rfl) (by kernel_rfl)) (by kernel_rfl) (by kernel_rfl) (by kernel_rfl)
      (by rw [MakeChecks.laidMetH_plain _ _ _ (by kernel_rfl)]; exact laidMet_laidAll _ (by kernel_rfl) (by kernel_rfl))) ?_
  · intro ds hl
    match ds, hl with
    | [d0], _ => rfl
  · intro t ht
    rw [show Tryd.f3.params.toList = [9] from by rw [Tryd.params3]] at ht
    simp only [List.mem_cons, List.not_mem_nil, or_false] at ht
    rcases ht with rfl
    · exact ⟨by kernel_rfl, of_decide_eq_true (by kernel_rfl)⟩
  · intro W args hG
    rw [show Tryd.f3.params.toList = [9] from by rw [Tryd.params3]] at hG
    obtain ⟨v0, rfl, g0⟩ := gotAll_args1 hG
    obtain ⟨a0, rfl, b0⟩ := got_string Tryd.underlying9 g0
    exact walk_namesSplit W a0 b0

theorem namesSplit_over : Rows.namesSplitRow.holds Tryd.pinned (OpenSpec.ofChange Rows.namesSplitSpec) :=
  OpenClaim.holds_of_wide 3 Tryd.f3 rfl rfl rfl rfl rfl rfl rfl ⟨rfl, rfl, rfl, rfl, rfl⟩ rfl rfl rfl rfl rfl (by kernel_rfl) Tryd.func3 (by kernel_rfl)
    (of_decide_eq_true (by kernel_rfl)) (by unfold Func.isWrapper; first | (rw [if_pos (by decide +kernel)]; kernel_rfl) | (rw [if_neg (by decide +kernel)]; exact ⟨rfl, rfl⟩))
    (fun os started H enc _ => lifted_namesSplit os started H enc)

theorem namesSplit_holds : Rows.NamesSplitCardSaid :=
  Claim7.holds_tied_plain_at .later [] [.data, .pinned] true (true, "0b2efbb8c5e64fd6dce629912144b1bf5c6fe063e2a189094e2917efd15ad8c6") false namesSplit_over (fun _ h => by cases h) (by kernel_rfl) (fun _ h => by cases h) namesSplit_row_tie rfl ⟨rfl, rfl⟩ (by kernel_rfl) rfl
    (fun f fn hf hfn => by
      obtain rfl : f = 3 := Option.some.inj ((show Tryd.prog.funcNamed "glissade/glissadelaw13.NamesSplit" = some 3 by kernel_rfl).symm.trans hf) |>.symm
      obtain rfl : fn = Tryd.f3 := (Option.some.inj (Tryd.func3.symm.trans hfn)).symm
      exact ⟨by kernel_rfl, fun j t ht => by
        rw [Tryd.params3] at ht
        have hm : t ∈ [9] := by simpa using Array.mem_of_getElem? ht
        have hall : ([9].all fun u => !Tryd.prog.wantsStandIn u) = true := by kernel_rfl
        exact (show Tryd.prog.wantsStandIn t = false by simpa using List.all_eq_true.1 hall t hm)⟩)
    (by kernel_rfl)
#print axioms namesSplit_holds

end Go.Proofs.YtlhkfpenfbakkaaDoor
