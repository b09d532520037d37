/- For every input the law glissadelaw08.RecordsNone returns true. -/
import Derived.BigQuiet
import Derived.Deep.QuietTactic
import Derived.StillTailTactics
import Derived.Test.YtfgnemddamebaaaRecAlive
import Derived.Test.YtfgnemddamebaaaRecMask
import Derived.Test.YtfgnemddamebaaaRecSame
import Derived.Test.YtfgnemddamebaaaFrame
set_option linter.unusedVariables false
set_option linter.unusedSimpArgs false
set_option maxRecDepth 100000
namespace Go.Proofs.Ytfgnemddamebaaa
open Go.RowKit Go.Joins

theorem rest4_data (s : ByteArray) : (rest4 s).data.toList = s.data.toList.drop 4 := by
  rw [rest4, ByteArray.data_extract, Array.toList_extract]
  simp [List.extract]
  exact List.take_of_length_le (by simp)
theorem nul_rest (s : ByteArray) (h : 4 ≤ s.size) : (nulB ++ rest4 s).size = s.size ∧ magic (nulB ++ rest4 s) = false ∧ rest4 (nulB ++ rest4 s) = rest4 s := by
  have hd : (nulB ++ rest4 s).data.toList = [0, 0, 0, 0] ++ s.data.toList.drop 4 := by rw [ByteArray.data_append, Array.toList_append, rest4_data]
  have hz : (nulB ++ rest4 s).size = s.size := by
    rw [ByteArray.size_append, rest4, ByteArray.size_extract, show nulB.size = 4 from rfl]; omega
  refine ⟨hz, ?_, ?_⟩
  · refine Bool.eq_false_iff.2 fun q => ?_
    rw [magic, hd] at q
    simp [Lib.hasPrefix, List.isPrefixOf] at q
  · apply ByteArray.ext
    apply Array.toList_inj.1
    rw [rest4_data, rest4_data, hd]
    rfl
theorem mag_rest {s : ByteArray} (h : magic s = true) : magB ++ rest4 s = s := by
  obtain ⟨h4, he⟩ := (magic_iff s).1 h
  apply ByteArray.ext
  apply Array.toList_inj.1
  rw [ByteArray.data_append, Array.toList_append, rest4_data, ← he, ByteArray.data_extract, Array.toList_extract]
  simp [List.extract]

set_option maxHeartbeats 2000000 in
theorem recNone_yes (w : World) (s R T : ByteArray) (n : Nat) (hn : n ≤ 140737488351232) (h4 : 4 ≤ n) (hs : s.size = n) (hR : R.size = n) (hT1 : s.extract 4 n = T) (hT2 : R.extract 4 n = T)
    (HM : Hid (∀ W, Calls Try.prog 17 #[.string s] W fun e w' => e = .returned (.tuple #[.string R, .bool true]) ∧ W = w'))
    (HD : Hid (∀ W, Calls Try.prog 15 #[.string R] W (DecN8 W)))
    (HN : Hid (∀ W, Calls Try.prog 17 #[.string R] W fun e w' => e = .returned (.tuple #[.string R, .bool false]) ∧ W = w'))
    (HE : Hid (∀ W, Calls Try.prog 15 #[.string s] W fun e w' => ∃ (x : Rc) (ah am : Option Addr) (ch cm : Nat) (e0 : Int), e = .returned (.tuple #[rcV x ah ch am cm, .int .i64 e0]) ∧ Below W.heap.size W w'))
    (HU : Hid (∀ W, Calls Try.prog 19 #[.string R] W fun e w' => e = .returned (.string s) ∧ W = w')) :
    Calls Try.prog 7 #[.string s] w fun e w' => e = .returned (.bool true) ∧ Below w.heap.size w w' := by
  have t1 : (R.toList == R.toList) = true := by simp
  have t2 : (s.toList == s.toList) = true := by simp
  have t3 : (T.toList == T.toList) = true := by simp
  have i1 : (4 : Int) ≤ (n : Int) := by omega
  have i2 : (0 : Int) ≤ 4 := by omega
  go_enter Try.func7, Try.ntmps7
  go_wp2_with fail
  refine (HM.out _).mono ?_
  rintro e w1 ⟨rfl, rfl⟩
  go_wp2_with fail
  refine (HD.out _).mono ?_
  rintro e w1 ⟨rfl, hb1⟩
  have B1 := hb1.alloc hb1.size (.cells #[.int .i64 0, .int .u64 0, .int .i64 0, .slice none 0 0, .slice none 0 0, .int .u32 0] 27)
  go_wp2_with fail
  refine (HN.out _).mono ?_
  rintro e w2 ⟨rfl, rfl⟩
  go_wp2_with fail
  refine (HE.out _).mono ?_
  rintro e w2 ⟨x, ah, am, ch, cm, e0, rfl, hb2⟩
  have B2 := below_chain B1 hb2 B1.size
  have B2a := B2.alloc B2.size (.cells (rcells x.k x.q x.at_ ah x.hs.length ch am x.ms.length cm x.sum) 27)
  go_wp2_with fail
  have HU2 := Lib.hid (fun W => (HU.out W).mono fun e w' h => ⟨h.1, h.2.symm⟩ : ∀ W, Calls Try.prog 19 #[.string R] W fun e w' => e = .returned (.string s) ∧ w' = W)
  go_still_tail 17, (by kernel_rfl)
  still_call (HU2.out _)
  repeat still_step
  refine wpStill_nil ?_
  change wpList _ _ _ _ _ (World.drew _)
  have B3 := B2a.drew
  go_wp2_with fail
  refine (alive08 _).mono ?_
  rintro e w3 ⟨rfl, hb3⟩
  have B4 := below_chain B3 hb3 B3.size
  go_wp2_with fail
  go_ret
  exact ⟨rfl, B4⟩

set_option maxHeartbeats 2000000 in
theorem recNone_no (w : World) (s : ByteArray) (n : Nat) (hn : n ≤ 140737488351232) (hs : s.size = n)
    (HM : Hid (∀ W, Calls Try.prog 17 #[.string s] W fun e w' => e = .returned (.tuple #[.string s, .bool false]) ∧ W = w'))
    (HD : Hid (∀ W, Calls Try.prog 15 #[.string s] W (DecN8 W))) :
    Calls Try.prog 7 #[.string s] w fun e w' => e = .returned (.bool true) ∧ Below w.heap.size w w' := by
  have t1 : (s.toList == s.toList) = true := by simp
  go_enter Try.func7, Try.ntmps7
  go_wp2_with fail
  refine (HM.out _).mono ?_
  rintro e w1 ⟨rfl, rfl⟩
  go_wp2_with fail
  refine (HD.out _).mono ?_
  rintro e w1 ⟨rfl, hb1⟩
  have B1 := hb1.alloc hb1.size (.cells #[.int .i64 0, .int .u64 0, .int .i64 0, .slice none 0 0, .slice none 0 0, .int .u32 0] 27)
  go_wp2_with fail
  refine (HM.out _).mono ?_
  rintro e w2 ⟨rfl, rfl⟩
  go_wp2_with fail
  refine (HD.out _).mono ?_
  rintro e w2 ⟨rfl, hb2⟩
  have B2 := below_chain B1 hb2 B1.size
  have B2a := B2.alloc B2.size (.cells #[.int .i64 0, .int .u64 0, .int .i64 0, .slice none 0 0, .slice none 0 0, .int .u32 0] 27)
  go_wp2_with fail
  refine (alive08 _).mono ?_
  rintro e w3 ⟨rfl, hb3⟩
  have B4 := below_chain B2a hb3 B2a.size
  go_wp2_with fail
  go_ret
  exact ⟨rfl, B4⟩

theorem walk_recordsNone (w : World) (s : ByteArray) (hs0 : s.size ≤ 140737488351232) :
    Calls Try.prog 7 #[.string s] w fun e w' => e = .returned (.bool true) ∧ Below w.heap.size w w' := by
  have hs := size_le_maxLen hs0
  have hnone : ∀ t : ByteArray, magic t = false → recDec t = false := fun t hm => Bool.eq_false_iff.2 fun hd => by
    have h2 := recDec_magic hd
    have h3 := recDec_size hd
    have : magic t = true := by
      rw [magic, ← Lib.hasPrefix_of_take, Bool.and_eq_true, decide_eq_true_eq, beq_iff_eq]
      refine ⟨?_, h2⟩
      have : t.data.toList.length = t.size := by simp
      show 4 ≤ _
      omega
    rw [hm] at this; cases this
  cases hm : magic s with
  | false => exact recNone_no w s s.size hs0 rfl (Lib.hid fun W => mask_no s W hm) (Lib.hid fun W => pdec_no s W hs (hnone s hm))
  | true =>
    have h4 := ((magic_iff s).1 hm).1
    obtain ⟨q1, q2, q3⟩ := nul_rest s h4
    have hs2 : (nulB ++ rest4 s).size ≤ maxLen := by rw [q1]; exact hs
    refine recNone_yes w s (nulB ++ rest4 s) (rest4 s) s.size hs0 h4 rfl q1 rfl (by rw [← q1]; exact q3) (Lib.hid fun W => mask_yes s W hs hm) (Lib.hid fun W => pdec_no _ W hs2 (hnone _ q2)) (Lib.hid fun W => mask_no _ W q2) (Lib.hid fun W => ?_) (Lib.hid fun W => ?_)
    · cases hd : recDec s with
      | true =>
        refine (pdec_yes s W hs hd).mono fun e w' h => ?_
        obtain ⟨ah, ch, am, cm, h1, _, _, h4⟩ := h
        exact ⟨recP s, ah, am, ch, cm, 0, h1, h4⟩
      | false =>
        refine (pdec_no s W hs hd).mono fun e w' h => ?_
        exact ⟨Rc.zero, none, none, 0, 0, 80, h.1, h.2⟩
    · have := unmask_yes (nulB ++ rest4 s) W hs2 (by rw [q1]; exact h4)
      rw [q3, mag_rest hm] at this
      exact this

/-! ### the frame (printed by mklaw.py) -/

set_option maxRecDepth 100000 in
theorem lifted_recordsNone (os : Os) (started : os.Started) (H : Type) (enc : TypeId × Value → H) :
    ReturnsInHanded {} Try.checked os 7 .any (Rows.recordsNoneSpec.pre6 enc Try.prog Try.f7 Rows.recordsNoneRow.domain false) (Rows.recordsNoneSpec.post enc Try.prog Try.f7 false true false false) := by
  refine law_step (C := Try.checked) (tb := 4) (by kernel_rfl) (by kernel_rfl) started (by kernel_rfl) Try.func7 rfl Try.underlying4 rfl ?_ ?_
    (ChangeSpec.witness6 (enc := enc) (C := Try.checked) false ⟨#[], #[.string ByteArray.empty], []⟩ 8 (by kernel_rfl) (by kernel_rfl) (by kernel_rfl) (by kernel_rfl)) ?_
  · intro ds hl
    match ds, hl with
    | [d0], _ => rfl
  · intro t ht
    rw [show Try.f7.params.toList = [9] from by rw [Try.params7]] at ht
    simp only [List.mem_cons, List.not_mem_nil, or_false] at ht
    rcases ht with rfl
    · exact ⟨by kernel_rfl, of_decide_eq_true (by kernel_rfl)⟩
  · intro W args hG
    rw [show Try.f7.params.toList = [9] from by rw [Try.params7]] at hG
    obtain ⟨v0, rfl, g0⟩ := gotAll_args1 hG
    obtain ⟨a0, rfl, b0⟩ := got_string Try.underlying9 g0
    exact walk_recordsNone W a0 b0

theorem recordsNone_over : Rows.recordsNoneRow.holds Try.pinned (OpenSpec.ofChange Rows.recordsNoneSpec) :=
  OpenClaim.holds_of_wide 7 Try.f7 rfl rfl rfl rfl rfl rfl rfl ⟨rfl, rfl, rfl, rfl, rfl⟩ rfl rfl rfl rfl rfl (by kernel_rfl) Try.func7 (by kernel_rfl)
    (of_decide_eq_true (by kernel_rfl)) (by unfold Func.isWrapper; first | (rw [if_pos (by decide +kernel)]; kernel_rfl) | (rw [if_neg (by decide +kernel)]; exact ⟨rfl, rfl⟩))
    (fun os started H enc _ => lifted_recordsNone os started H enc)

theorem recordsNone_holds : Rows.RecordsNoneSaid := recordsNone_over
#print axioms recordsNone_holds

end Go.Proofs.Ytfgnemddamebaaa
