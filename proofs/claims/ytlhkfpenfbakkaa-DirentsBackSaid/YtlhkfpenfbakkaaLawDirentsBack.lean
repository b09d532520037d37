/- For every input the law glissadelaw12.DirentsBack returns true; at most 100 entries, 2000 bytes. -/
import Derived.BigQuiet
import Derived.Deep.QuietTactic
import Derived.Deep.RegionHeld3
import Derived.Test.YtlhkfpenfbakkaaDirLaw
import Derived.Test.YtlhkfpenfbakkaaGotDes
import Derived.Test.YtlhkfpenfbakkaaFrame
set_option linter.unusedVariables false
set_option linter.unusedSimpArgs false
set_option maxRecDepth 100000
namespace Go.Proofs.Ytlhkfpenfbakkaa
open Go.RowKit Go.Joins

set_option maxHeartbeats 4000000 in
theorem walk_direntsBack (w : World) (a : Option Addr) (cap : Nat) (l : List De) (hcl : l.length ≤ cap) (hcm : cap ≤ maxLen) (hV : ValD w a l) (hs : ∀ z ∈ l, z.nm.size ≤ maxLen ∧ i64B z.ino) (s : ByteArray) (hsz : s.size ≤ 140737488351232) :
    Calls Try.prog 6 #[.slice a l.length cap, .string s] w fun e w' => e = .returned (.bool true) ∧ Below w.heap.size w w' := by
  have HGr := Lib.hid (great12 a cap l w (by omega) hV (fun d hd => (hs d hd).1))
  have HV := Lib.hid hV
  have HPs := Lib.hid (fun (T : ByteArray) W hs => parse_any T W hs)
  clear hV hs
  unfold ParseP at HPs
  go_enter Try.func6, Try.ntmps6
  go_wp2_with fail
  refine HGr.out.mono ?_
  rintro e w1 ⟨⟨b, rfl, hb100⟩, rfl⟩
  have B0 : Below w.heap.size w w := Below.refl _ _
  cases b with
  | true =>
    clear hb100 HPs
    go_wp2_with fail
    go_ret
    exact ⟨rfl, B0⟩
  | false =>
    have hl := hb100 rfl
    clear hb100 HGr
    by_cases h2 : 2000 < s.size
    · have h2' : (2000 : Int) < (s.size : Int) := by omega
      clear HPs
      go_wp2_with fail
      go_ret
      exact ⟨rfl, B0⟩
    · have h2' : ¬ (2000 : Int) < (s.size : Int) := by omega
      have HP := Lib.hid (pack_any a cap l w HV.out (by omega) hcl)
      unfold PackP at HP
      have HE := Lib.hid (show packE l ≠ 0 → packB l = ⟨#[]⟩ from fun h => by rw [packB, if_neg h])
      have HOk := Lib.hid (show packE l = 0 → parseP (packB l) = some l ∧ (packB l).size = 128 from fun h => ⟨parse_pack h, packB_size h⟩)
      clear B0
      go_wp2_with fail
      refine HP.out.mono ?_
      rintro e w1 ⟨rfl, B1⟩
      by_cases hpe : packE l = 0
      · obtain ⟨q1, q2⟩ := HOk.out hpe
        have HQ := Lib.hid q1
        rw [hpe]
        have hl1 : l.length ≤ 100 := hl
        clear HE HOk HP hpe q1
        generalize packB l = T at *
        have hT : (T.size : Int) = 128 := by omega
        go_wp2_with fail
        refine (HPs.out T _ (by omega)).mono ?_
        rintro e w2 ⟨h | ⟨h, _⟩, hb2⟩
        · obtain ⟨l2, a2, cap2, h1, rfl, h3, h4⟩ := h
          rw [HQ.out] at h1
          injection h1 with h1
          subst h1
          have B2 := below_chain B1 hb2 B1.size
          obtain ⟨a', cap', hv, hnew, _, _⟩ := own_newd h4
          injection hv with hv1 _ hv3
          subst hv1 hv3
          have HS := Lib.hid (same12 a2 a cap2 cap l w2 (by omega) hnew.vals (HV.out.below B2 (Nat.le_refl _)))
          clear h3 h4 hnew hb2 B1
          go_wp2_with fail
          refine HS.out.mono ?_
          rintro e w3 ⟨rfl, hb3⟩
          have BB := below_chain B2 hb3 B2.size
          clear hb3 HS B2
          go_wp2_with fail
          refine (HPs.out s _ (by omega)).mono ?_
          rintro e w5 ⟨h | ⟨h, rfl⟩, hb5⟩
          · obtain ⟨l3, a3, cap3, h1, rfl, h3, h4⟩ := h
            have B5 := below_chain BB hb5 BB.size
            obtain ⟨a', cap', hv, hnew, _, _⟩ := own_newd h4
            injection hv with hv1 _ hv3
            subst hv1 hv3
            obtain ⟨q1, q2⟩ := parseP_ok h1
            have hm3 := (packE_ok.1 q1).2.2.2
            have hl3 := len_many l3
            have HP3 := Lib.hid (pack_any a3 cap3 l3 w5 hnew.vals (by omega) h3)
            unfold PackP at HP3
            rw [q1, q2] at HP3
            clear h1 h3 h4 hnew hb5 q1 q2 hm3 hl3
            go_wp2_with fail
            refine HP3.out.mono ?_
            rintro e w6 ⟨rfl, hb6⟩
            have B6 := below_chain B5 hb6 B5.size
            go_wp2_with fail
            refine (alive12 _).mono ?_
            rintro e w7 ⟨rfl, hb7⟩
            have B7 := below_chain B6 hb7 B6.size
            go_wp2_with fail
            go_ret
            exact ⟨rfl, B7⟩
          · have B5 := below_chain BB hb5 BB.size
            clear h
            go_wp2_with fail
            refine (alive12 _).mono ?_
            rintro e w7 ⟨rfl, hb7⟩
            have B7 := below_chain B5 hb7 B5.size
            go_wp2_with fail
            go_ret
            exact ⟨rfl, B7⟩
        · rw [HQ.out] at h
          cases h
      · have hq : (packE l == 0) = false := by simpa using hpe
        rw [HE.out hpe]
        clear HE HOk HP hpe
        generalize packE l = pe at *
        have BB := B1
        clear B1
        go_wp2_with fail
        refine (HPs.out s _ (by omega)).mono ?_
        rintro e w5 ⟨h | ⟨h, rfl⟩, hb5⟩
        · obtain ⟨l3, a3, cap3, h1, rfl, h3, h4⟩ := h
          have B5 := below_chain BB hb5 BB.size
          obtain ⟨a', cap', hv, hnew, _, _⟩ := own_newd h4
          injection hv with hv1 _ hv3
          subst hv1 hv3
          obtain ⟨q1, q2⟩ := parseP_ok h1
          have hm3 := (packE_ok.1 q1).2.2.2
          have hl3 := len_many l3
          have HP3 := Lib.hid (pack_any a3 cap3 l3 w5 hnew.vals (by omega) h3)
          unfold PackP at HP3
          rw [q1, q2] at HP3
          clear h1 h3 h4 hnew hb5 q1 q2 hm3 hl3
          go_wp2_with fail
          refine HP3.out.mono ?_
          rintro e w6 ⟨rfl, hb6⟩
          have B6 := below_chain B5 hb6 B5.size
          go_wp2_with fail
          refine (alive12 _).mono ?_
          rintro e w7 ⟨rfl, hb7⟩
          have B7 := below_chain B6 hb7 B6.size
          go_wp2_with fail
          go_ret
          exact ⟨rfl, B7⟩
        · have B5 := below_chain BB hb5 BB.size
          clear h
          go_wp2_with fail
          refine (alive12 _).mono ?_
          rintro e w7 ⟨rfl, hb7⟩
          have B7 := below_chain B5 hb7 B5.size
          go_wp2_with fail
          go_ret
          exact ⟨rfl, B7⟩

/-! ### the frame (printed by mklaw.py) -/

set_option maxRecDepth 100000 in
theorem lifted_direntsBack (os : Os) (started : os.Started) (H : Type) (enc : TypeId × Value → H) :
    ReturnsInHanded {} Try.checked os 6 .any (Rows.direntsBackSpec.pre6 enc Try.prog Try.f6 Rows.direntsBackRow.domain false) (Rows.direntsBackSpec.post enc Try.prog Try.f6 false true false false) := by
  refine law_step (C := Try.checked) (tb := 4) (by kernel_rfl) (by kernel_rfl) started (by kernel_rfl) Try.func6 rfl Try.underlying4 rfl ?_ ?_
    (ChangeSpec.witness6 (enc := enc) (C := Try.checked) false ⟨#[], #[.slice none 0 0, .string ByteArray.empty], []⟩ 8 (by kernel_rfl) (by kernel_rfl) (by kernel_rfl) (by kernel_rfl)) ?_
  · intro ds hl
    match ds, hl with
    | [d0, d1], _ => rfl
  · intro t ht
    rw [show Try.f6.params.toList = [22, 9] from by rw [Try.params6]] at ht
    simp only [List.mem_cons, List.not_mem_nil, or_false] at ht
    rcases ht with rfl | rfl
    · exact ⟨by kernel_rfl, of_decide_eq_true (by kernel_rfl)⟩
    · exact ⟨by kernel_rfl, of_decide_eq_true (by kernel_rfl)⟩
  · intro W args hG
    rw [show Try.f6.params.toList = [22, 9] from by rw [Try.params6]] at hG
    obtain ⟨v0, v1, rfl, g0, g1⟩ := gotAll_args2 hG
    obtain ⟨a0, cap0, l0, rfl, hc0, hm0, hV0, hs0⟩ := got_des g0
    obtain ⟨a1, rfl, b1⟩ := got_string Try.underlying9 g1
    exact walk_direntsBack W a0 cap0 l0 hc0 hm0 hV0 hs0 a1 b1

theorem direntsBack_over : Rows.direntsBackRow.holds Try.pinned (OpenSpec.ofChange Rows.direntsBackSpec) :=
  OpenClaim.holds_of_wide 6 Try.f6 rfl rfl rfl rfl rfl rfl rfl ⟨rfl, rfl, rfl, rfl, rfl⟩ rfl rfl rfl rfl rfl (by kernel_rfl) Try.func6 (by kernel_rfl)
    (of_decide_eq_true (by kernel_rfl)) (by unfold Func.isWrapper; first | (rw [if_pos (by decide +kernel)]; kernel_rfl) | (rw [if_neg (by decide +kernel)]; exact ⟨rfl, rfl⟩))
    (fun os started H enc _ => lifted_direntsBack os started H enc)

theorem direntsBack_holds : Rows.DirentsBackSaid := direntsBack_over
#print axioms direntsBack_holds

end Go.Proofs.Ytlhkfpenfbakkaa
