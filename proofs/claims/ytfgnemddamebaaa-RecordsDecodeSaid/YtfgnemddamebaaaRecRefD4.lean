/- Walks: a record decoded: the document's answer: all bytes. -/
import Derived.Test.YtfgnemddamebaaaRecRefD2
import Derived.Test.YtfgnemddamebaaaRecRefD8
import Derived.Test.YtfgnemddamebaaaRecWalks9
set_option linter.unusedVariables false
set_option linter.unusedSimpArgs false
set_option maxRecDepth 100000
namespace Go.Proofs.Ytfgnemddamebaaa
open Go.RowKit Go.Joins

theorem rdec8_size (s : ByteArray) (w : World) (hs : s.size ≤ maxLen) (h : s.size ≠ 128) : Calls Try.prog 16 #[.string s] w (DecN8 w) := by
  unfold maxLen at hs
  have hb : (((s.size : Nat) : Int) != 128) = true := by rw [bne_iff_ne]; omega
  have z0 := rowAt_alloc w #[.int .i64 0, .int .u64 0, .int .i64 0, .slice none 0 0, .slice none 0 0, .int .u32 0] 27
  go_enter Try.func16, Try.ntmps16
  go_wp2_with fail
  refine bodyPost_ret (v := .tuple #[rv 0 0 0 none 0 0 none 0 0 0, .int .i64 80]) ?_ rfl ⟨rfl, ?_⟩
  · simp [results, Try.results16, go_sem]; done
  · go_grown

theorem rdec8_head (s : ByteArray) (w : World) (hs : s.size = 128) (h : magic s = false) : Calls Try.prog 16 #[.string s] w (DecN8 w) := by
  have ht := magic_test2 s (by omega)
  rw [h] at ht
  clear h
  go_enter Try.func16, Try.ntmps16
  go_wp2_with fail
  refine bodyPost_ret (v := .tuple #[rv 0 0 0 none 0 0 none 0 0 0, .int .i64 80]) ?_ rfl ⟨rfl, ?_⟩
  · simp [results, Try.results16, go_sem]; done
  · go_grown

/-- a byte, as the number of one byte -/
theorem byte_get (s : ByteArray) (i : Nat) (hi : i < s.size) : getIV s (i : Int) 1 = ((s[i]'hi).toNat : Int) ∧ getIOk s (i : Int) 1 = true := by
  have hok : getIOk s (i : Int) 1 = true := getIOk_small (fits_iff.2 ⟨.inl rfl, by omega, by omega⟩) (by omega)
  refine ⟨?_, hok⟩
  rw [getIV, if_pos hok, getL]
  have e1 : ((i : Int)).toNat = i := by omega
  have hl : i < s.data.toList.length := by simpa using hi
  have e2 : (s.data.toList.drop ((i : Int)).toNat).take (1 : Int).toNat = [s[i]'hi] := by
    rw [e1]
    show (s.data.toList.drop i).take 1 = _
    rw [List.drop_eq_getElem_cons hl, List.take_succ_cons, List.take_zero]
    rfl
  rw [e2]
  simp [leVal]

theorem index_byte (s : ByteArray) (i : Nat) (hi : i < s.size) : ∀ w, (Instr.index 9 (.string s) (.int .i64 (i : Int))).run Try.prog w = .ok (.int .u8 (getIV s (i : Int) 1)) w := by
  intro w
  rw [(byte_get s i hi).1]
  have e : s[i]? = some (s[i]'hi) := by simp [hi]
  have e1 : ((i : Int)).toNat = i := by omega
  simp [Instr.index, go_sem, Try.underlying9, e, e1, asIntOf]

theorem rdec8_use (s : ByteArray) (w : World) (hl : (recR s).hs.length ≤ 100000 ∧ (recR s).ms.length ≤ 100000)
    (core : ∀ (Post : Ending → World → Prop) (Q : ByteArray) (e0 : Int), (Hid (∀ ah ch am cm W, NewS W (w.heap.size + 1 + 1) ah ((recR s).hs.map (Value.int .i64)) → NewS W (w.heap.size + 1 + 1) am ((recR s).ms.map Value.bool) → Calls Try.prog 12 #[rcV (recR s) ah ch am cm] W fun e w' => e = .returned (.tuple #[.string Q, .int .i64 e0]) ∧ Below W.heap.size W w')) →
      Hid (e0 = 0 ∧ (Q.toList == s.toList) = true ∧ Post = DecP8 (recR s) w ∨ e0 = 0 ∧ (Q.toList == s.toList) = false ∧ Post = DecN8 w ∨ e0 = 2 ∧ Post = DecN8 w) →
      Calls Try.prog 16 #[.string s] w Post) :
    Calls Try.prog 16 #[.string s] w (Dec8 s w) := by
  have hR := recDecR s
  cases hok : (recR s).ok with
  | true =>
    have HE := Lib.hid (fun ah ch am cm W (h1 : NewS W (w.heap.size + 1 + 1) ah ((recR s).hs.map (Value.int .i64))) (h2 : NewS W (w.heap.size + 1 + 1) am ((recR s).ms.map Value.bool)) => r8enc_yes (recR s) ah ch am cm W (recOf_fit _ _ _) ⟨h1.vals, h2.vals⟩ hok)
    refine core _ _ _ HE ?_
    show _ ∨ _
    rw [hok, Bool.true_and] at hR
    cases hd : recDec s with
    | true => exact .inl ⟨rfl, by rw [hR, hd], by rw [Dec8, if_pos hd, recR_P hd]⟩
    | false => exact .inr (.inl ⟨rfl, by rw [hR, hd], by rw [Dec8, hd]; rfl⟩)
  | false =>
    have HE := Lib.hid (fun ah ch am cm W (h1 : NewS W (w.heap.size + 1 + 1) ah ((recR s).hs.map (Value.int .i64))) (h2 : NewS W (w.heap.size + 1 + 1) am ((recR s).ms.map Value.bool)) => r8enc_no (recR s) ah ch am cm W hl.1 hl.2 ⟨h1.vals, h2.vals⟩ hok)
    rw [hok, Bool.false_and] at hR
    refine core _ _ _ HE ?_
    show _ ∨ _
    exact .inr (.inr ⟨rfl, by rw [Dec8, ← hR]; rfl⟩)

theorem recR_len (s : ByteArray) : (recR s).hs.length ≤ 100000 ∧ (recR s).ms.length ≤ 100000 := by
  refine ⟨?_, ?_⟩
  · show (if _ then _ else _ : List Int).length ≤ _
    split <;> simp; omega
  · show (if _ then _ else _ : List Bool).length ≤ _
    split <;> simp; omega

theorem get_u16 (s : ByteArray) (hz : s.size = 128) (a n : Int) (hn : n = 2 ∨ n = 4) (h0 : 0 ≤ a) (h1 : a + n ≤ 128) : (getV s a n : Int) = getIV s a n := by
  have hf : fits s.size a n = true := fits_iff.2 ⟨by omega, h0, by rw [hz]; omega⟩
  rw [getV, if_pos hf, getIV, if_pos (getIOk_small hf (by omega))]

theorem getIV_two (s : ByteArray) (a : Int) : 0 ≤ getIV s a 2 ∧ getIV s a 2 ≤ 65535 := by
  have h1 := getL_lt s.data.toList a 2
  have e : (256 : Nat) ^ (2 : Int).toNat = 65536 := by decide
  rw [e] at h1
  rw [getIV]; split <;> omega

theorem rdec8_full (s : ByteArray) (w : World) (hsz : s.size = 128) (hm : magic s = true) : Calls Try.prog 16 #[.string s] w (Dec8 s w) := by
  have hs : s.size ≤ maxLen := by rw [hsz]; decide
  have ht := magic_test2 s (by omega)
  rw [hm] at ht
  have HQ := Lib.hid (fun W => rget_any s 5 8 W hs)
  have hl := recR_len s
  obtain ⟨hN1, hN2⟩ := many8 s
  have i4 := index_byte s 4 (by omega)
  have i13 := index_byte s 13 (by omega)
  have hk : 0 ≤ getIV s 4 1 ∧ getIV s 4 1 ≤ 255 := by
    have h1 := getL_lt s.data.toList 4 1
    have e : (256 : Nat) ^ (1 : Int).toNat = 256 := by decide
    rw [e] at h1
    rw [getIV]; split <;> omega
  have hG3 : ∀ M : Nat, M ≤ 40 → Hid (∀ i, i < M → 0 ≤ homeAt s i ∧ homeAt s i ≤ 65535 ∧ ∃ b : Bool, ∀ W, Calls Try.prog 37 #[.string s, .int .i64 (14 + 2 * (i : Int)), .int .i64 2] W fun e w' => e = .returned (.tuple #[.int .u64 (homeAt s i), .bool b]) ∧ W = w') := by
    intro M hM i hi
    have h := getIV_two s (14 + 2 * (i : Int))
    refine ⟨h.1, h.2, fits s.size (14 + 2 * (i : Int)) 2, fun W => ?_⟩
    have := rget_any s (14 + 2 * (i : Int)) 2 W hs
    rw [get_u16 s hsz _ 2 (.inl rfl) (by omega) (by omega)] at this
    exact this
  have k4 : (recR s).k = getIV s ((4 : Nat) : Int) 1 := rfl
  have hN : getIV s ((13 : Nat) : Int) 1 = (manyAt s : Int) := hN1
  have hN13 : ∀ w, (Instr.index 9 (.string s) (.int .i64 13)).run Try.prog w = .ok (.int .u8 (manyAt s : Int)) w := by rw [← hN]; exact i13
  by_cases k1 : getIV s 4 1 = 1
  · refine rdec8_use s w hl fun Post Q e0 HE hres => ?_
    have h := getIV_two s 13
    refine rdec8_k1 s w hsz (recR s).k (recR s).q (manyAt s) hk.1 hk.2 (by omega) (by omega) _ (recR s) Post Q e0 ht i4 hN13 HQ ⟨getIV s 13 2, fits s.size 13 2, k1, ?_, h.1, h.2, Lib.hid fun W => ?_⟩ HE hres
    · rw [recR, recOf, if_pos k1, if_neg (by omega), if_neg (by omega), if_neg (by omega), k1]
    · have := rget_any s 13 2 W hs
      rw [get_u16 s hsz _ 2 (.inl rfl) (by omega) (by omega)] at this
      exact this
  by_cases k4 : getIV s 4 1 = 4
  · refine rdec8_use s w hl fun Post Q e0 HE hres => ?_
    have hv := (recOf_fit s 58 58).2.2
    rw [show (recOf s 58 58).sum = getIV s 13 4 from if_pos k4] at hv
    refine rdec8_k4 s w hsz (recR s).k (recR s).q (manyAt s) hk.1 hk.2 (by omega) (by omega) _ (recR s) Post Q e0 ht i4 hN13 HQ ⟨getIV s 13 4, fits s.size 13 4, k4, ?_, hv.1, hv.2, Lib.hid fun W => ?_⟩ HE hres
    · rw [recR, recOf, if_neg k1, if_neg (by omega), if_neg (by omega), if_pos k4, k4]
    · have := rget_any s 13 4 W hs
      rw [get_u16 s hsz _ 4 (.inr rfl) (by omega) (by omega)] at this
      exact this
  by_cases k3 : getIV s 4 1 = 3
  · refine rdec8_use s w hl fun Post Q e0 HE hres => ?_
    refine rdec8_k3 s w hsz (recR s).k (recR s).q (manyAt s) hk.1 hk.2 (by omega) (by omega) _ (recR s) Post Q e0 ht i4 hN13 HQ ⟨min (manyAt s) 40, homeAt s, ⟨by omega, by omega, by omega, k3, hG3 _ (by omega)⟩, ?_⟩ HE hres
    rw [recR, recOf, if_neg k1, if_pos (by omega), if_neg (by omega), if_neg (by omega), k3]; rfl
  by_cases k2 : getIV s 4 1 = 2
  · refine rdec8_use s w hl fun Post Q e0 HE hres => ?_
    refine rdec8_k2 s w hsz (recR s).k (recR s).q (manyAt s) hk.1 hk.2 (by omega) (by omega) _ (recR s) Post Q e0 ht i4 hN13 HQ ⟨min (manyAt s) 40, homeAt s, min (manyAt s) 24, markAt s (manyAt s), ⟨by omega, by omega, by omega, k2, hG3 _ (by omega)⟩, by omega, by omega, by omega, ?_, ?_⟩ HE hres
    · intro i hi
      by_cases c : 14 + 2 * (manyAt s : Int) + (i : Int) < 128
      · refine .inr ⟨c, getIV s (14 + 2 * (manyAt s : Int) + (i : Int)) 1, ?_, rfl⟩
        have := index_byte s (14 + 2 * manyAt s + i) (by omega)
        rw [show ((14 + 2 * manyAt s + i : Nat) : Int) = 14 + 2 * (manyAt s : Int) + (i : Int) by omega] at this
        exact this
      · refine .inl ⟨?_, c⟩
        have hf : fits s.size (14 + 2 * (manyAt s : Int) + (i : Int)) 1 = false := Bool.eq_false_iff.2 (fun q => by have := (fits_iff.1 q).2.2; rw [hsz] at this; omega)
        rw [markAt, getIV, getIOk, hf]; rfl
    · rw [recR, recOf, if_neg k1, if_pos (by omega), if_pos k2, if_neg k4, k2]; rfl
  · refine rdec8_use s w hl fun Post Q e0 HE hres => ?_
    refine rdec8_k0 s w hsz (recR s).k (recR s).q (manyAt s) hk.1 hk.2 (by omega) (by omega) _ (recR s) Post Q e0 ht i4 hN13 HQ ⟨k1, k2, k3, k4, ?_⟩ HE hres
    rw [recR, recOf, if_neg k1, if_neg (by omega), if_neg (by omega), if_neg (by omega)]

/-- THE RECORD OF ANY BYTES, the document's answer -/
theorem rdec8_any (s : ByteArray) (w : World) (hs : s.size ≤ maxLen) : Calls Try.prog 16 #[.string s] w (Dec8 s w) := by
  by_cases hz : s.size = 128
  · cases hm : magic s with
    | true => exact rdec8_full s w hz hm
    | false =>
      have hd : recDec s = false := Bool.eq_false_iff.2 fun hd => by
        have h2 := recDec_magic hd
        have : magic s = true := by
          rw [magic, ← Lib.hasPrefix_of_take, Bool.and_eq_true, decide_eq_true_eq, beq_iff_eq]
          refine ⟨?_, h2⟩
          have : s.data.toList.length = s.size := by simp
          show 4 ≤ _
          omega
        rw [hm] at this; cases this
      rw [Dec8, hd]
      exact rdec8_head s w hz hm
  · have hd : recDec s = false := Bool.eq_false_iff.2 fun hd => hz (recDec_size hd)
    rw [Dec8, hd]
    exact rdec8_size s w hs hz

end Go.Proofs.Ytfgnemddamebaaa
