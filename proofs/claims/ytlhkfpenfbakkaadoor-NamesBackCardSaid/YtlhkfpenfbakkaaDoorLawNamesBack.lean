/- For every input the law glissadelaw13.NamesBack returns true; within the sizes that the law itself asks; else it returns true at once; a tied card: two package variables of unicode/utf8 are laid as the text lays them; the card speaks of a pruned copy of the project. -/
import Derived.BigQuiet
import Derived.Deep.QuietTactic
import Derived.Deep.RegionHeld3
import Derived.Laws.AppendOwnNone
import Derived.SevenTiedAt
import Derived.Test.YtlhkfpenfbakkaaDoorNamLaw2
import Derived.Test.YtlhkfpenfbakkaaDoorGotStrs
import Derived.Test.YtlhkfpenfbakkaaDoorTie
import Derived.Test.YtlhkfpenfbakkaaDoorCards
import Derived.Test.YtlhkfpenfbakkaaDoorFrameL
set_option linter.unusedVariables false
set_option linter.unusedSimpArgs false
set_option maxRecDepth 100000
namespace Go.Proofs.YtlhkfpenfbakkaaDoor
open Go.RowKit Go.Joins

theorem split_list (s : ByteArray) : ∃ (m : List ByteArray) (z : Int), splitP (bts s) = (m.map bts, z) := by
  refine ⟨(splitP (bts s)).1.map tx, (splitP (bts s)).2, Prod.ext ?_ rfl⟩
  rw [List.map_map]
  have : (bts ∘ tx) = id := funext fun l => tx_bts l
  rw [this]; simp
theorem split_short {s : ByteArray} {m : List ByteArray} {z : Int} (h : splitP (bts s) = (m.map bts, z)) : m.length ≤ 16 := by
  rcases splitP_two (bts s) with h2 | h2 | h2
  · have h3 := splitP_ok h2
    rw [h] at h3
    have := h3.1.2.1
    simpa using this
  · rw [h] at h2
    injection h2 with h2 _
    have := congrArg List.length h2
    rw [List.length_map, List.length_nil] at this
    omega
  · rw [h] at h2
    injection h2 with h2 _
    have := congrArg List.length h2
    rw [List.length_map, List.length_nil] at this
    omega

theorem path_flat {xs : List (List UInt8)} (h : PathOk xs) : (flat xs).length ≤ 1000000 := by
  have := h.2.2
  rw [pathS] at this
  split at this
  · rename_i e
    rw [e]; simp [flat]
  · omega

set_option maxHeartbeats 8000000 in
theorem walk_namesBack (w : World) (a : Option Addr) (cap : Nat) (l : List ByteArray) (hcl : l.length ≤ cap) (hcm : cap ≤ maxLen) (hV : ValS w a (strs l)) (hs : ∀ z ∈ l, z.size ≤ maxLen) (hnone : a = none → cap = 0) (p : ByteArray) (hsz : p.size ≤ 140737488351232) :
    Calls Tryd.prog 5 #[.slice a l.length cap, .string p] w fun e w' => e = .returned (.bool true) ∧ Below w.heap.size w w' := by
  have HGr := Lib.hid (great13 a cap l w (by omega) hV hs)
  have HV := Lib.hid hV
  have B0 : Below w.heap.size w w := Below.refl _ _
  clear hV hs hsz hnone
  go_enter Tryd.func5, Tryd.ntmps5
  go_wp2_with fail
  refine HGr.out.mono ?_
  rintro e w1 ⟨⟨b, rfl, hb100⟩, hww⟩
  obtain rfl := hww
  cases b with
  | true =>
    clear hb100
    go_wp2_with fail
    go_ret
    exact ⟨rfl, B0⟩
  | false =>
    obtain ⟨hl, hf⟩ := hb100 rfl
    clear hb100 HGr
    by_cases h2 : 5000 < p.size
    · have h2' : (5000 : Int) < (p.size : Int) := by omega
      go_wp2_with fail
      go_ret
      exact ⟨rfl, B0⟩
    have h2' : ¬ (5000 : Int) < (p.size : Int) := by omega
    have HJ := cjoin_any a cap l w HV.out hcl (by omega)
    unfold JoinR at HJ
    obtain ⟨m2, z2, hm2⟩ := split_list p
    have HS2 := Lib.hid (fun W => csplit_is hm2 W)
    have HM2 := Lib.hid hm2
    clear hm2 h2 hf
    by_cases hz : (joinP (l.map bts)).2 = 0
    · obtain ⟨k1, k2⟩ := joinP_ok (xs := l.map bts) (p := (joinP (l.map bts)).1) (Prod.ext rfl hz)
      rw [hz, k2] at HJ
      have HS1 := Lib.hid (fun W => csplit_is (s := tx (pathS (l.map bts))) (m := l) (z := 0) (by rw [tx_bts]; exact splitP_path k1) W)
      have hps := k1.2.2
      rw [← tx_size] at hps
      have hl16 := k1.2.1
      rw [List.length_map] at hl16
      generalize tx (pathS (l.map bts)) = S at *
      have HJJ := Lib.hid HJ
      have t1 : ¬ (256 : Int) < (S.size : Int) := by omega
      have t2 : ¬ (16 : Int) < (l.length : Int) := by omega
      clear hz k1 k2 HJ hps
      go_wp2_with fail
      refine HJJ.out.mono ?_
      rintro e w2 ⟨rfl, hb2⟩
      have B2 := below_chain B0 hb2 B0.size
      clear hb2 B0 HJJ
      go_wp2_with fail
      refine (HS1.out _).mono ?_
      rintro e w3 ⟨⟨a3, c3, rfl, h31, h32, hn3⟩, hb3⟩
      have B3 := below_chain B2 hb3 B2.size
      have HSm := Lib.hid (same13 a3 a c3 cap l w3 (by omega) hn3.vals (HV.out.below B3 (Nat.le_refl _)))
      clear hb3 B2 hn3 HS1
      go_wp2_with fail
      refine HSm.out.mono ?_
      rintro e w4 ⟨rfl, hb4⟩
      have BB := below_chain B3 hb4 B3.size
      clear hb4 B3 HSm
      go_wp2_with fail
      refine (HS2.out _).mono ?_
      rintro e w5 ⟨⟨a5, c5, rfl, h51, h52, hn5⟩, hb5⟩
      have B5 := below_chain BB hb5 BB.size
      by_cases hz2 : z2 = 0
      · subst hz2
        obtain ⟨k1, k2⟩ := splitP_ok (p := bts p) (xs := m2.map bts) HM2.out
        have HJ2 := cjoin_any a5 c5 m2 w5 hn5.vals h51 (path_flat k1)
        unfold JoinR at HJ2
        rw [joinP_path k1] at HJ2
        have e5 : tx (pathS (m2.map bts)) = p := bts_ext (by rw [tx_bts, ← k2])
        simp only [e5] at HJ2
        have HJ2 := Lib.hid HJ2
        clear e5 k1 k2 hn5 hb5 HS2 HM2 BB
        go_wp2_with fail
        refine HJ2.out.mono ?_
        rintro e w6 ⟨rfl, hb6⟩
        have B6 := below_chain B5 hb6 B5.size
        clear hb6 B5 HJ2
        go_wp2_with fail
        refine (alive13 _).mono ?_
        rintro e w7 ⟨rfl, hb7⟩
        have B7 := below_chain B6 hb7 B6.size
        go_wp2_with fail
        go_ret
        exact ⟨rfl, B7⟩
      · obtain ⟨k1, k2⟩ := splitP_err (p := bts p) (by rw [HM2.out]; exact hz2)
        rw [HM2.out] at k1 k2
        obtain rfl : m2 = [] := List.map_eq_nil_iff.1 k1
        have q1 : (z2 != 0) = true := by rw [bne_iff_ne]; exact hz2
        have q2 : (z2 == 0) = false := by rw [beq_eq_false_iff_ne]; exact hz2
        clear k1 hn5 hb5 HS2 HM2 BB
        rcases k2 with rfl | rfl
        all_goals
          clear hz2 q1 q2
          go_wp2_with fail
          refine (alive13 _).mono ?_
          rintro e w7 ⟨rfl, hb7⟩
          have B7 := below_chain B5 hb7 B5.size
          go_wp2_with fail
          go_ret
          exact ⟨rfl, B7⟩
    · have hq : ((joinP (l.map bts)).2 == 0) = false := by simpa using hz
      rw [joinP_err hz] at HJ
      have HJ : Calls Tryd.prog 16 #[.slice a l.length cap] w fun e w' => e = .returned (.tuple #[.string ⟨#[]⟩, .int .i64 (joinP (l.map bts)).2]) ∧ Below w.heap.size w w' := HJ
      have HJJ := Lib.hid HJ
      generalize (joinP (l.map bts)).2 = z at *
      clear HJ hz
      go_wp2_with fail
      refine HJJ.out.mono ?_
      rintro e w2 ⟨rfl, hb2⟩
      have BB := below_chain B0 hb2 B0.size
      clear hb2 B0 HJJ
      go_wp2_with fail
      refine (HS2.out _).mono ?_
      rintro e w5 ⟨⟨a5, c5, rfl, h51, h52, hn5⟩, hb5⟩
      have B5 := below_chain BB hb5 BB.size
      by_cases hz2 : z2 = 0
      · subst hz2
        obtain ⟨k1, k2⟩ := splitP_ok (p := bts p) (xs := m2.map bts) HM2.out
        have HJ2 := cjoin_any a5 c5 m2 w5 hn5.vals h51 (path_flat k1)
        unfold JoinR at HJ2
        rw [joinP_path k1] at HJ2
        have e5 : tx (pathS (m2.map bts)) = p := bts_ext (by rw [tx_bts, ← k2])
        simp only [e5] at HJ2
        have HJ2 := Lib.hid HJ2
        clear e5 k1 k2 hn5 hb5 HS2 HM2 BB
        go_wp2_with fail
        refine HJ2.out.mono ?_
        rintro e w6 ⟨rfl, hb6⟩
        have B6 := below_chain B5 hb6 B5.size
        clear hb6 B5 HJ2
        go_wp2_with fail
        refine (alive13 _).mono ?_
        rintro e w7 ⟨rfl, hb7⟩
        have B7 := below_chain B6 hb7 B6.size
        go_wp2_with fail
        go_ret
        exact ⟨rfl, B7⟩
      · obtain ⟨k1, k2⟩ := splitP_err (p := bts p) (by rw [HM2.out]; exact hz2)
        rw [HM2.out] at k1 k2
        obtain rfl : m2 = [] := List.map_eq_nil_iff.1 k1
        have q1 : (z2 != 0) = true := by rw [bne_iff_ne]; exact hz2
        have q2 : (z2 == 0) = false := by rw [beq_eq_false_iff_ne]; exact hz2
        clear k1 hn5 hb5 HS2 HM2 BB
        rcases k2 with rfl | rfl
        all_goals
          clear hz2 q1 q2
          go_wp2_with fail
          refine (alive13 _).mono ?_
          rintro e w7 ⟨rfl, hb7⟩
          have B7 := below_chain B5 hb7 B5.size
          go_wp2_with fail
          go_ret
          exact ⟨rfl, B7⟩

/-! ### the frame (printed by mklaw.py) -/

set_option maxRecDepth 100000 in
theorem lifted_namesBack (os : Os) (started : os.Started) (H : Type) (enc : TypeId × Value → H) :
    ReturnsInHanded {} Tryd.checked os 5 .any (fun w args => (Rows.namesBackSpec.pre enc Tryd.prog Tryd.f5 Rows.namesBackRow.domain false w args ∧ laidMetH Tryd.prog Rows.namesBackRow.laid w) ∧ sizedMet enc Tryd.prog Tryd.f5 (OpenSpec.ofChange Rows.namesBackSpec) false w args) (Rows.namesBackSpec.post enc Tryd.prog Tryd.f5 false true false false) := by
  refine law_step_laid (C := Tryd.checked) (tb := 4) (by kernel_rfl) (by kernel_rfl) started (by kernel_rfl) Tryd.func5 rfl Tryd.underlying4 rfl ?_ ?_
    (ChangeSpec.witness_shaped (enc := enc) (C := Tryd.checked) (os := os) (X := fun w _ => laidMetH Tryd.prog Rows.namesBackRow.laid w) false (World.laidAll Tryd.prog os Rows.namesBackRow.laid) #[.slice none 0 0, .string ByteArray.empty] 8 (World.laidAll_os _ _ _)
      (World.shaped_of_ZipB (by kernel_rfl) (by kernel_rfl)) (by kernel_rfl) (by kernel_rfl) (by kernel_rfl)
      (by rw [MakeChecks.laidMetH_plain _ _ _ (by kernel_rfl)]; exact laidMet_laidAll _ (by kernel_rfl) (by kernel_rfl))) ?_
  · intro ds hl
    match ds, hl with
    | [d0, d1], _ => rfl
  · intro t ht
    rw [show Tryd.f5.params.toList = [22, 9] from by rw [Tryd.params5]] at ht
    simp only [List.mem_cons, List.not_mem_nil, or_false] at ht
    rcases ht with rfl | rfl
    · exact ⟨by kernel_rfl, of_decide_eq_true (by kernel_rfl)⟩
    · exact ⟨by kernel_rfl, of_decide_eq_true (by kernel_rfl)⟩
  · intro W args hG
    rw [show Tryd.f5.params.toList = [22, 9] from by rw [Tryd.params5]] at hG
    obtain ⟨v0, v1, rfl, g0, g1⟩ := gotAll_args2 hG
    obtain ⟨a0, cap0, l0, rfl, hc0, hm0, hV0, hs0, hn0⟩ := got_strs g0
    obtain ⟨a1, rfl, b1⟩ := got_string Tryd.underlying9 g1
    exact walk_namesBack W a0 cap0 l0 hc0 hm0 hV0 hs0 hn0 a1 b1

theorem namesBack_over : Rows.namesBackRow.holds Tryd.pinned (OpenSpec.ofChange Rows.namesBackSpec) :=
  OpenClaim.holds_of_wide 5 Tryd.f5 rfl rfl rfl rfl rfl rfl rfl ⟨rfl, rfl, rfl, rfl, rfl⟩ rfl rfl rfl rfl rfl (by kernel_rfl) Tryd.func5 (by kernel_rfl)
    (of_decide_eq_true (by kernel_rfl)) (by unfold Func.isWrapper; first | (rw [if_pos (by decide +kernel)]; kernel_rfl) | (rw [if_neg (by decide +kernel)]; exact ⟨rfl, rfl⟩))
    (fun os started H enc _ => lifted_namesBack os started H enc)

theorem namesBack_holds : Rows.NamesBackCardSaid :=
  Claim7.holds_tied_plain_at .later [] [.data, .pinned] true (true, "0b2efbb8c5e64fd6dce629912144b1bf5c6fe063e2a189094e2917efd15ad8c6") false namesBack_over (fun _ h => by cases h) (by kernel_rfl) (fun _ h => by cases h) namesBack_row_tie rfl ⟨rfl, rfl⟩ (by kernel_rfl) rfl
    (fun f fn hf hfn => by
      obtain rfl : f = 5 := Option.some.inj ((show Tryd.prog.funcNamed "glissade/glissadelaw13.NamesBack" = some 5 by kernel_rfl).symm.trans hf) |>.symm
      obtain rfl : fn = Tryd.f5 := (Option.some.inj (Tryd.func5.symm.trans hfn)).symm
      exact ⟨by kernel_rfl, fun j t ht => by
        rw [Tryd.params5] at ht
        have hm : t ∈ [22, 9] := by simpa using Array.mem_of_getElem? ht
        have hall : ([22, 9].all fun u => !Tryd.prog.wantsStandIn u) = true := by kernel_rfl
        exact (show Tryd.prog.wantsStandIn t = false by simpa using List.all_eq_true.1 hall t hm)⟩)
    (by kernel_rfl)
#print axioms namesBack_holds

end Go.Proofs.YtlhkfpenfbakkaaDoor
