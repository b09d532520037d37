/- Walks: a record decoded: all bytes. -/
import Derived.Test.YtfgnemddamebaaaRecWalks6
import Derived.Test.YtfgnemddamebaaaRecWalks7
import Derived.Test.YtfgnemddamebaaaRecWalks8
import Derived.Test.YtfgnemddamebaaaRecMask
set_option linter.unusedVariables false
set_option linter.unusedSimpArgs false
set_option maxRecDepth 100000
namespace Go.Proofs.Ytfgnemddamebaaa
open Go.RowKit Go.Joins

theorem dec8_size (s : ByteArray) (w : World) (hs : s.size ≤ maxLen) (h : s.size ≠ 128) : Calls Try.prog 15 #[.string s] w (DecN8 w) := by
  unfold maxLen at hs
  have hb : (((s.size : Nat) : Int) != 128) = true := by rw [bne_iff_ne]; omega
  have z0 := rowAt_alloc w #[.int .i64 0, .int .u64 0, .int .i64 0, .slice none 0 0, .slice none 0 0, .int .u32 0] 27
  go_enter Try.func15, Try.ntmps15
  go_wp2_with fail
  refine bodyPost_ret (v := .tuple #[rv 0 0 0 none 0 0 none 0 0 0, .int .i64 80]) ?_ rfl ⟨rfl, ?_⟩
  · simp [results, Try.results15, go_sem]; done
  · go_grown

theorem dec8_head (s : ByteArray) (w : World) (hs : s.size = 128) (h : magic s = false) : Calls Try.prog 15 #[.string s] w (DecN8 w) := by
  have HP := Lib.hid (fun W => by have := Try.strings_HasPrefix s magB W; rw [show Lib.hasPrefix s.data.toList magB.data.toList = false from h] at this; exact this : ∀ W, Calls Try.prog 35 #[.string s, .string ⟨#[71, 76, 74, 119]⟩] W fun e w' => e = .returned (.bool false) ∧ w' = W)
  clear h
  go_enter Try.func15, Try.ntmps15
  go_wp2_with fail
  refine (HP.out _).mono ?_
  rintro e w2 ⟨rfl, rfl⟩
  go_wp2_with fail
  refine bodyPost_ret (v := .tuple #[rv 0 0 0 none 0 0 none 0 0 0, .int .i64 80]) ?_ rfl ⟨rfl, ?_⟩
  · simp [results, Try.results15, go_sem]; done
  · go_grown

theorem get8 (s : ByteArray) (hz : s.size = 128) (t size t1 : Int) (b : Bool) (v : Int) (ht : 0 ≤ t ∧ t ≤ 100000) (hs : 0 ≤ size ∧ size ≤ 8) (e1 : t + size = t1) (eb : (!getIOk s t size) = b) (ev : getIV s t size = v) :
    ∀ K W, RowAt W K [.string s, .int .i64 t, .bool false] → Calls Try.prog 36 #[.pointer (some ⟨K, 0, none⟩), .int .i64 size] W fun e w' => e = .returned (.int .i64 v) ∧ RowAt w' K [.string s, .int .i64 t1, .bool b] ∧ W.grownBy w' (some K) := by
  subst e1 eb ev
  intro K W hr
  exact rget_ok K s t size false W hr ht hs (by rw [hz]; decide)
theorem ok8 {s : ByteArray} (hz : s.size = 128) {t size : Int} (h : size = 1 ∨ size = 2 ∨ size = 4) (h0 : 0 ≤ t) (h1 : t + size ≤ 128) : (!getIOk s t size) = false := by
  rw [getIOk_small (fits_iff.2 ⟨by omega, h0, by rw [hz]; exact h1⟩) (by omega)]; rfl
theorem bad8 {s : ByteArray} (hz : s.size = 128) {t size : Int} (h1 : 128 < t + size) : (!getIOk s t size) = true := by
  have : fits s.size t size = false := Bool.eq_false_iff.2 (fun q => by have := (fits_iff.1 q).2.2; rw [hz] at this; omega)
  rw [getIOk, this]; rfl

theorem many8 (s : ByteArray) : getIV s 13 1 = (manyAt s : Int) ∧ manyAt s ≤ 255 := by
  have h1 := getL_lt s.data.toList 13 1
  have e : (256 : Nat) ^ (1 : Int).toNat = 256 := by decide
  rw [e] at h1
  have h2 : 0 ≤ getIV s 13 1 ∧ getIV s 13 1 ≤ 255 := by
    rw [getIV]; split <;> omega
  rw [manyAt]; omega

abbrev Dec8 (s : ByteArray) (w : World) : Ending → World → Prop := if recDec s = true then DecP8 (recP s) w else DecN8 w

theorem dec8_use (s : ByteArray) (w : World) (bad : Bool) (hbad : bad = true → recDec s = false) (hl : (recP s).hs.length ≤ 100000 ∧ (recP s).ms.length ≤ 100000)
    (core : ∀ (Post : Ending → World → Prop) (Q : ByteArray) (e0 : Int), (Hid (∀ ah ch am cm W, NewS W (w.heap.size + 1 + 1 + 1) ah ((recP s).hs.map (Value.int .i64)) → NewS W (w.heap.size + 1 + 1 + 1) am ((recP s).ms.map Value.bool) → Calls Try.prog 11 #[rcV (recP s) ah ch am cm] W fun e w' => e = .returned (.tuple #[.string Q, .int .i64 e0]) ∧ Below W.heap.size W w')) →
      Hid (bad = false ∧ e0 = 0 ∧ (Q.toList == s.toList) = true ∧ Post = DecP8 (recP s) w ∨ bad = false ∧ e0 = 0 ∧ (Q.toList == s.toList) = false ∧ Post = DecN8 w ∨ bad = false ∧ e0 = 2 ∧ Post = DecN8 w ∨ bad = true ∧ Post = DecN8 w) →
      Calls Try.prog 15 #[.string s] w Post) :
    Calls Try.prog 15 #[.string s] w (Dec8 s w) := by
  cases hok : (recP s).ok with
  | true =>
    have HE := Lib.hid (fun ah ch am cm W (h1 : NewS W (w.heap.size + 1 + 1 + 1) ah ((recP s).hs.map (Value.int .i64))) (h2 : NewS W (w.heap.size + 1 + 1 + 1) am ((recP s).ms.map Value.bool)) => recenc_yes (recP s) ah ch am cm W (recOf_fit _ _ _) ⟨h1.vals, h2.vals⟩ hok)
    refine core _ _ _ HE ?_
    show _ ∨ _
    cases bad with
    | true => exact .inr (.inr (.inr ⟨rfl, by rw [Dec8, hbad rfl]; rfl⟩))
    | false =>
      cases hd : recDec s with
      | true =>
        have h2 := hd
        rw [recDec, Bool.and_eq_true] at h2
        exact .inl ⟨rfl, rfl, h2.2, by rw [Dec8, if_pos hd]⟩
      | false =>
        have h2 := hd
        rw [recDec, hok, Bool.true_and] at h2
        exact .inr (.inl ⟨rfl, rfl, h2, by rw [Dec8, hd]; rfl⟩)
  | false =>
    have HE := Lib.hid (fun ah ch am cm W (h1 : NewS W (w.heap.size + 1 + 1 + 1) ah ((recP s).hs.map (Value.int .i64))) (h2 : NewS W (w.heap.size + 1 + 1 + 1) am ((recP s).ms.map Value.bool)) => recenc_no (recP s) ah ch am cm W hl.1 hl.2 ⟨h1.vals, h2.vals⟩ hok)
    have hd : recDec s = false := by rw [recDec, hok, Bool.false_and]
    refine core _ _ _ HE ?_
    show _ ∨ _
    cases bad with
    | true => exact .inr (.inr (.inr ⟨rfl, by rw [Dec8, hd]; rfl⟩))
    | false => exact .inr (.inr (.inl ⟨rfl, rfl, by rw [Dec8, hd]; rfl⟩))

theorem recP_len (s : ByteArray) : (recP s).hs.length ≤ 100000 ∧ (recP s).ms.length ≤ 100000 := by
  have := (many8 s).2
  refine ⟨?_, ?_⟩
  · show (if _ then _ else _ : List Int).length ≤ _
    split <;> simp; omega
  · show (if _ then _ else _ : List Bool).length ≤ _
    split <;> simp; omega

theorem dec8_full (s : ByteArray) (w : World) (hsz : s.size = 128) (hm : magic s = true) : Calls Try.prog 15 #[.string s] w (Dec8 s w) := by
  have HP := Lib.hid (fun W => by have := Try.strings_HasPrefix s magB W; rw [show Lib.hasPrefix s.data.toList magB.data.toList = true from hm] at this; exact this : ∀ W, Calls Try.prog 35 #[.string s, .string ⟨#[71, 76, 74, 119]⟩] W fun e w' => e = .returned (.bool true) ∧ w' = W)
  have hs : s.size ≤ maxLen := by rw [hsz]; decide
  have HQ := Lib.hid (fun W => get_any s 5 8 W hs)
  have H4 := get8 s hsz 4 1 5 false (getIV s 4 1) (by omega) (by omega) rfl (ok8 hsz (by omega) (by omega) (by omega)) rfl
  have hl := recP_len s
  obtain ⟨hN1, hN2⟩ := many8 s
  have H13 := get8 s hsz 13 1 (14 + 2 * ((0 : Nat) : Int)) false (manyAt s : Int) (by omega) (by omega) (by simp) (ok8 hsz (by omega) (by omega) (by omega)) hN1
  have hbdN : ∀ M : Nat, M = min (manyAt s) 58 → (Hid (∀ i < M, (decide (57 < i)) = false)) ∧ (M = manyAt s ∨ M < manyAt s ∧ decide (57 < M) = true) := by
    intro M hM
    refine ⟨fun i hi => ?_, ?_⟩
    · rw [decide_eq_false_iff_not]; omega
    · rw [decide_eq_true_eq]; omega
  have hG3 : Hid (∀ i, i < min (manyAt s) 58 → ∀ K W, RowAt W K [.string s, .int .i64 (14 + 2 * (i : Int)), .bool false] → Calls Try.prog 36 #[.pointer (some ⟨K, 0, none⟩), .int .i64 2] W fun e w' => e = .returned (.int .i64 (homeAt s i)) ∧ RowAt w' K [.string s, .int .i64 (14 + 2 * ((i + 1 : Nat) : Int)), .bool (decide (57 < i + 1))] ∧ W.grownBy w' (some K)) := by
    intro i hi
    refine get8 s hsz _ 2 _ _ _ (by omega) (by omega) (by omega) ?_ rfl
    by_cases c : 57 < i + 1
    · rw [decide_eq_true c, bad8 hsz (by omega)]
    · rw [decide_eq_false c, ok8 hsz (by omega) (by omega) (by omega)]
  by_cases k1 : getIV s 4 1 = 1
  · refine dec8_use s w false (fun h => by cases h) hl fun Post Q e0 HE hres => ?_
    refine dec8_k1 s w hsz (recP s).k (recP s).q _ (recP s) false Post Q e0 HP HQ H4 ⟨getIV s 13 2, k1, ?_, rfl, ?_⟩ HE hres
    · rw [recP, recOf, if_pos k1, if_neg (by omega), if_neg (by omega), if_neg (by omega), k1]
    · exact get8 s hsz 13 2 15 false _ (by omega) (by omega) rfl (ok8 hsz (by omega) (by omega) (by omega)) rfl
  by_cases k4 : getIV s 4 1 = 4
  · refine dec8_use s w false (fun h => by cases h) hl fun Post Q e0 HE hres => ?_
    have hv := (recOf_fit s 58 58).2.2
    rw [show (recOf s 58 58).sum = getIV s 13 4 from if_pos k4] at hv
    refine dec8_k4 s w hsz (recP s).k (recP s).q _ (recP s) false Post Q e0 HP HQ H4 ⟨getIV s 13 4, k4, ?_, rfl, hv.1, hv.2, ?_⟩ HE hres
    · rw [recP, recOf, if_neg k1, if_neg (by omega), if_neg (by omega), if_pos k4, k4]
    · exact get8 s hsz 13 4 17 false _ (by omega) (by omega) rfl (ok8 hsz (by omega) (by omega) (by omega)) rfl
  by_cases k3 : getIV s 4 1 = 3
  · obtain ⟨q1, q2⟩ := hbdN _ rfl
    refine dec8_use s w (decide (57 < min (manyAt s) 58)) (fun h => Bool.eq_false_iff.2 (fun hd => ?_)) hl fun Post Q e0 HE hres => ?_
    · have := recDec_few hd (.inr k3); rw [decide_eq_true_eq] at h; omega
    · refine dec8_k3 s w hsz (recP s).k (recP s).q _ (recP s) _ Post Q e0 HP HQ H4 ⟨manyAt s, min (manyAt s) 58, homeAt s, fun i => decide (57 < i), hN2, by omega, q1, q2, H13, hG3, k3, ?_, rfl⟩ HE hres
      rw [recP, recOf, if_neg k1, if_pos (by omega), if_neg (by omega), if_neg (by omega), k3]; rfl
  by_cases k2 : getIV s 4 1 = 2
  · obtain ⟨q1, q2⟩ := hbdN _ rfl
    refine dec8_use s w (if 58 ≤ manyAt s then true else decide (114 < min (manyAt s) (115 - 2 * manyAt s) + 2 * manyAt s)) (fun h => Bool.eq_false_iff.2 (fun hd => ?_)) hl fun Post Q e0 HE hres => ?_
    · have := recDec_few hd (.inl k2); rw [if_neg (by omega), decide_eq_true_eq] at h; omega
    · refine dec8_k2 s w hsz (recP s).k (recP s).q _ (recP s) _ Post Q e0 HP HQ H4 ⟨manyAt s, min (manyAt s) 58, homeAt s, fun i => decide (57 < i), hN2, by omega, q1, q2, H13, hG3, min (manyAt s) (115 - 2 * manyAt s), min (manyAt s) (if 58 ≤ manyAt s then 0 else 115 - 2 * manyAt s), fun i => getIV s (14 + 2 * (manyAt s : Int) + (i : Int)) 1, fun j => decide (114 < j + 2 * manyAt s), by omega, fun i hi => ?_, fun h => ?_, fun h => ?_, ⟨fun h => ?_, fun h => ?_⟩, fun i hi => ?_, k2, ?_⟩ HE hres
      · rw [decide_eq_false_iff_not]; omega
      · rw [decide_eq_false_iff_not] at h; rw [decide_eq_true_eq]; omega
      · rw [decide_eq_false_iff_not] at h; rw [decide_eq_false_iff_not]; omega
      · rw [decide_eq_true_eq] at h
        exact ⟨by rw [if_pos (by omega)]; omega, by rw [if_pos (by omega)]⟩
      · rw [decide_eq_false_iff_not] at h
        exact ⟨by rw [if_neg (by omega)], by rw [if_neg (by omega)]⟩
      · refine get8 s hsz _ 1 _ _ _ (by omega) (by omega) (by omega) ?_ rfl
        show _ = decide (114 < i + 1 + 2 * manyAt s)
        by_cases c : 114 < i + 1 + 2 * manyAt s
        · rw [decide_eq_true c, bad8 hsz (by omega)]
        · rw [decide_eq_false c, ok8 hsz (by omega) (by omega) (by omega)]
      · rw [recP, recOf, if_neg k1, if_pos (by omega), if_pos k2, if_neg k4, k2]; rfl
  · refine dec8_use s w false (fun h => by cases h) hl fun Post Q e0 HE hres => ?_
    refine dec8_k0 s w hsz (recP s).k (recP s).q _ (recP s) false Post Q e0 HP HQ H4 ⟨k1, k2, k3, k4, ?_, rfl⟩ HE hres
    rw [recP, recOf, if_neg k1, if_neg (by omega), if_neg (by omega), if_neg (by omega)]

/-- THE RECORD OF ANY BYTES -/
theorem dec8_any (s : ByteArray) (w : World) (hs : s.size ≤ maxLen) : Calls Try.prog 15 #[.string s] w (Dec8 s w) := by
  by_cases hz : s.size = 128
  · cases hm : magic s with
    | true => exact dec8_full s w hz hm
    | false =>
      have hd : recDec s = false := Bool.eq_false_iff.2 fun hd => by
        have h2 := recDec_magic hd
        have : magic s = true := by
          rw [magic, ← Lib.hasPrefix_of_take, Bool.and_eq_true, decide_eq_true_eq, beq_iff_eq]
          refine ⟨?_, h2⟩
          have : s.data.toList.length = s.size := by simp
          show 4 ≤ _
          omega
        rw [hm] at this; cases this
      rw [Dec8, hd]
      exact dec8_head s w hz hm
  · have hd : recDec s = false := Bool.eq_false_iff.2 fun hd => hz (recDec_size hd)
    rw [Dec8, hd]
    exact dec8_size s w hs hz

theorem pdec_yes (s : ByteArray) (w : World) (hs : s.size ≤ maxLen) (h : recDec s = true) : Calls Try.prog 15 #[.string s] w (DecP8 (recP s) w) := by
  have := dec8_any s w hs
  rw [Dec8, if_pos h] at this
  exact this
theorem pdec_no (s : ByteArray) (w : World) (hs : s.size ≤ maxLen) (h : recDec s = false) : Calls Try.prog 15 #[.string s] w (DecN8 w) := by
  have := dec8_any s w hs
  rw [Dec8, h] at this
  exact this

end Go.Proofs.Ytfgnemddamebaaa
