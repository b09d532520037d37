/- For every input the law glissadelaw12.DirentsParse returns true; texts of at most 2000 bytes; else it returns true at once. -/
import Derived.BigQuiet
import Derived.Deep.QuietTactic
import Derived.Deep.RegionHeld3
import Derived.Test.YtlhkfpenfbakkaaDirRef3
import Derived.Test.YtlhkfpenfbakkaaDirLaw
import Derived.Test.YtlhkfpenfbakkaaGotDes
import Derived.Test.YtlhkfpenfbakkaaFrame
set_option linter.unusedVariables false
set_option linter.unusedSimpArgs false
set_option maxRecDepth 100000
namespace Go.Proofs.Ytlhkfpenfbakkaa
open Go.RowKit Go.Joins

theorem own_keepR {w w' : World} {base : Nat} {e : TypeId} {size : Nat} {v : Value} {n : Nat} {xs : List Value} (h : w.ownsRow base e size v n xs) (hb : Below w.heap.size w w') : w'.ownsRow base e size v n xs := by
  refine ⟨h.1, ?_⟩
  rcases h.2 with hn | ⟨g, cap, cur, rfl, hbb, hgg, rest⟩
  · exact .inl hn
  · refine .inr ⟨g, cap, cur, rfl, hbb, ?_, rest⟩
    rw [hb.block g (Array.getElem?_eq_some_iff.1 hgg).1]; exact hgg
theorem own_val {w : World} {base : Nat} {e : TypeId} {a : Option Addr} {c n : Nat} {l : List De} (h : w.ownsRow base e 2 (.slice a n c) n (l.flatMap De.cells)) : ValD w a l := by
  obtain ⟨a', cap', hv, hnew, _, _⟩ := own_newd h
  injection hv with hv1 _ hv3
  subst hv1 hv3
  exact hnew.vals

set_option maxHeartbeats 8000000 in
theorem walk_direntsParse (w : World) (s : ByteArray) (hsz : s.size ≤ 140737488351232) (nm : ByteArray) (hnz : nm.size ≤ 140737488351232) :
    Calls Try.prog 4 #[.string s, .string nm] w fun e w' => e = .returned (.bool true) ∧ Below w.heap.size w w' := by
  have B0 : Below w.heap.size w w := Below.refl _ _
  clear hsz hnz
  by_cases h1 : 2000 < s.size
  · have h1' : (2000 : Int) < (s.size : Int) := by omega
    go_enter Try.func4, Try.ntmps4
    go_wp2_with fail
    go_ret
    exact ⟨rfl, B0⟩
  have h1' : ¬ (2000 : Int) < (s.size : Int) := by omega
  by_cases h2 : 2000 < nm.size
  · have h2' : (2000 : Int) < (nm.size : Int) := by omega
    go_enter Try.func4, Try.ntmps4
    go_wp2_with fail
    go_ret
    exact ⟨rfl, B0⟩
  have h2' : ¬ (2000 : Int) < (nm.size : Int) := by omega
  have HP := Lib.hid (fun W => parse_list s W (by omega))
  have HP2 := Lib.hid (fun W => rparse_list s W (by omega))
  have HF1 := Lib.hid (fun W => find_any s nm W (by omega))
  have HF2 := Lib.hid (fun W => rfind_any s nm W (by omega))
  have HR1 := Lib.hid (fun W => room_any s W (by omega))
  have HR2 := Lib.hid (fun W => rroom_any s W (by omega))
  clear h1 h2
  obtain ⟨l, hl⟩ : ∃ l, l = (parseP s).getD [] := ⟨_, rfl⟩
  rw [← hl] at HP HP2
  clear hl
  generalize (if (parseP s).isSome = true then (0 : Int) else 80) = pe at *
  generalize (findP s nm).1 = n1 at *
  generalize (findP s nm).2 = n2 at *
  generalize roomP s = rm at *
  go_enter Try.func4, Try.ntmps4
  go_wp2_with fail
  refine (HP.out _).mono ?_
  rintro e w1 ⟨⟨lq, a1, c1, hlq, rfl, hc1, hl1, ho1⟩, hb1⟩
  obtain rfl := hlq.symm
  have B1 := below_chain B0 hb1 B0.size
  have HO1 := Lib.hid ho1
  have HLt := Lib.hid (fun j hj => World.ownsRow.lt HO1.out j hj)
  clear hb1 B0 ho1
  go_wp2_with fail
  refine (HP2.out _).mono ?_
  rintro e w2 ⟨⟨lq, a2, c2, hlq, rfl, hc2, hl2, ho2⟩, hb2⟩
  obtain rfl := hlq.symm
  have B2 := below_chain B1 hb2 B1.size
  have HO1 := Lib.hid (own_keepR HO1.out hb2)
  have HO2 := Lib.hid ho2
  have hbw := B1.size
  clear hb2 B1 ho2 hl2 HP2
  have hl1' : (l.length : Int) ≤ 1000 := by omega
  go_wp2_with fail
  refine (HF1.out _).mono ?_
  rintro e w3 ⟨rfl, hb3⟩
  have B3 := below_chain B2 hb3 B2.size
  have HO1 := Lib.hid (own_keepR HO1.out hb3)
  have HO2 := Lib.hid (own_keepR HO2.out hb3)
  clear hb3 B2 HF1
  go_wp2_with fail
  refine (HF2.out _).mono ?_
  rintro e w4 ⟨rfl, hb4⟩
  have B4 := below_chain B3 hb4 B3.size
  have HO1 := Lib.hid (own_keepR HO1.out hb4)
  have HO2 := Lib.hid (own_keepR HO2.out hb4)
  have HSm := Lib.hid (same12 a1 a2 c1 c2 l w4 (by omega) (own_val HO1.out) (own_val HO2.out))
  clear hb4 B3 HF2
  go_wp2_with fail
  refine HSm.out.mono ?_
  rintro e w5 ⟨rfl, hb5⟩
  have B5 := below_chain B4 hb5 B4.size
  have HO1 := Lib.hid (own_keepR HO1.out hb5)
  have HO2 := Lib.hid (own_keepR HO2.out hb5)
  clear hb5 B4 HSm
  go_wp2_with fail
  refine (HR1.out _).mono ?_
  rintro e w6 ⟨rfl, hb6⟩
  have B6 := below_chain B5 hb6 B5.size
  have HO1 := Lib.hid (own_keepR HO1.out hb6)
  have HO2 := Lib.hid (own_keepR HO2.out hb6)
  clear hb6 B5 HR1
  go_wp2_with fail
  refine (HR2.out _).mono ?_
  rintro e w7 ⟨rfl, hb7⟩
  have B7 := below_chain B6 hb7 B6.size
  have HO1 := Lib.hid (own_keepR HO1.out hb7)
  have HO2 := Lib.hid (own_keepR HO2.out hb7)
  clear hb7 B6 HR2
  go_wp2_with fail
  go_loopw [13] (fun jj wr => ∃ k : Nat, k ≤ l.length ∧ jj = .int .i64 k ∧ Hid (Below w.heap.size w wr ∧ (∃ xs, wr.ownsRow w.heap.size 25 2 (.slice a1 l.length c1) l.length xs) ∧ wr.ownsRow w1.heap.size 25 2 (.slice a2 l.length c2) l.length (l.flatMap De.cells))) (fun jj _ => l.length - (intOf jj).toNat)
  case atStart => exact ⟨0, by omega, rfl, B7, ⟨_, HO1.out⟩, HO2.out⟩
  case round =>
    obtain ⟨k, hk, rfl, HG⟩ := hrel
    clear B7 HO1 HO2
    by_cases hlt : k < l.length
    · obtain ⟨xs, hx⟩ := HG.out.2.1
      obtain ⟨g, cap', hv, hg, hcp, hrow⟩ := own_full4 hx (by omega)
      injection hv with hv1 _ hv3
      subst hv1 hv3
      have hxl := hx.1
      have hgl : g < w1.heap.size := (HLt.out g rfl).2
      obtain ⟨v0, m0⟩ := hrow.there (k * 2) (by omega)
      obtain ⟨v1, m1⟩ := hrow.there (k * 2 + 1) (by omega)
      have z0 := hrow.frozen (k * 2) (by omega)
      have z1 := hrow.frozen (k * 2 + 1) (by omega)
      have i1 : (k : Int) < (l.length : Int) := by omega
      have i2 : (0 : Int) ≤ (k : Int) := by omega
      have HX := Lib.hid hx
      have hwg : w.heap.size ≤ g := hg
      clear hx hrow hg hcp
      go_wp2_with fail
      go_roundw
      case rel =>
        obtain ⟨s1, g1⟩ := HX.out.stored (k * 2) (.string ⟨#[]⟩)
        obtain ⟨s2, g2⟩ := s1.stored (k * 2 + 1) (.int .i64 (-9))
        exact ⟨k + 1, by omega, by go_num, (HG.out.1.setCell (p := ⟨g, k * 2, none⟩) hwg _).setCell (p := ⟨g, k * 2 + 1, none⟩) hwg _, ⟨_, s2⟩, own_other (own_other HG.out.2.2 ⟨g, k * 2, none⟩ _ hgl) ⟨g, k * 2 + 1, none⟩ _ hgl⟩
      case measure => simp [intOf]; omega
    · obtain rfl : k = l.length := by omega
      have hnl : ¬ ((l.length : Int) < (l.length : Int)) := by omega
      have B8 := HG.out.1
      have HO2 := Lib.hid HG.out.2.2
      clear HG
      go_wp2_with fail
      refine (HP.out _).mono ?_
      rintro e w8 ⟨⟨lq, a3, c3, hlq, rfl, hc3, hl3, ho3⟩, hb8⟩
      obtain rfl := hlq.symm
      have B9 := below_chain B8 hb8 B8.size
      have HO2 := Lib.hid (own_keepR HO2.out hb8)
      have HSm := Lib.hid (same12 a3 a2 c3 c2 l w8 (by omega) (own_val ho3) (own_val HO2.out))
      clear hb8 B8 ho3 hl3
      go_wp2_with fail
      refine HSm.out.mono ?_
      rintro e w9 ⟨rfl, hb9⟩
      have B10 := below_chain B9 hb9 B9.size
      clear hb9 B9 HSm
      go_wp2_with fail
      refine (alive12 _).mono ?_
      rintro e w10 ⟨rfl, hb10⟩
      have B11 := below_chain B10 hb10 B10.size
      go_wp2_with fail
      go_ret
      exact ⟨rfl, B11⟩

/-! ### the frame (printed by mklaw.py) -/

set_option maxRecDepth 100000 in
theorem lifted_direntsParse (os : Os) (started : os.Started) (H : Type) (enc : TypeId × Value → H) :
    ReturnsInHanded {} Try.checked os 4 .any (Rows.direntsParseSpec.pre6 enc Try.prog Try.f4 Rows.direntsParseRow.domain false) (Rows.direntsParseSpec.post enc Try.prog Try.f4 false true false false) := by
  refine law_step (C := Try.checked) (tb := 4) (by kernel_rfl) (by kernel_rfl) started (by kernel_rfl) Try.func4 rfl Try.underlying4 rfl ?_ ?_
    (ChangeSpec.witness6 (enc := enc) (C := Try.checked) false ⟨#[], #[.string ByteArray.empty, .string ByteArray.empty], []⟩ 8 (by kernel_rfl) (by kernel_rfl) (by kernel_rfl) (by kernel_rfl)) ?_
  · intro ds hl
    match ds, hl with
    | [d0, d1], _ => rfl
  · intro t ht
    rw [show Try.f4.params.toList = [9, 9] from by rw [Try.params4]] at ht
    simp only [List.mem_cons, List.not_mem_nil, or_false] at ht
    rcases ht with rfl | rfl
    · exact ⟨by kernel_rfl, of_decide_eq_true (by kernel_rfl)⟩
    · exact ⟨by kernel_rfl, of_decide_eq_true (by kernel_rfl)⟩
  · intro W args hG
    rw [show Try.f4.params.toList = [9, 9] from by rw [Try.params4]] at hG
    obtain ⟨v0, v1, rfl, g0, g1⟩ := gotAll_args2 hG
    obtain ⟨a0, rfl, b0⟩ := got_string Try.underlying9 g0
    obtain ⟨a1, rfl, b1⟩ := got_string Try.underlying9 g1
    exact walk_direntsParse W a0 b0 a1 b1

theorem direntsParse_over : Rows.direntsParseRow.holds Try.pinned (OpenSpec.ofChange Rows.direntsParseSpec) :=
  OpenClaim.holds_of_wide 4 Try.f4 rfl rfl rfl rfl rfl rfl rfl ⟨rfl, rfl, rfl, rfl, rfl⟩ rfl rfl rfl rfl rfl (by kernel_rfl) Try.func4 (by kernel_rfl)
    (of_decide_eq_true (by kernel_rfl)) (by unfold Func.isWrapper; first | (rw [if_pos (by decide +kernel)]; kernel_rfl) | (rw [if_neg (by decide +kernel)]; exact ⟨rfl, rfl⟩))
    (fun os started H enc _ => lifted_direntsParse os started H enc)

theorem direntsParse_holds : Rows.DirentsParseSaid := direntsParse_over
#print axioms direntsParse_holds

end Go.Proofs.Ytlhkfpenfbakkaa
