/- Walks: a superblock's block. -/
import Derived.Test.YtfgnemddamebaaaSupersWalks
import Derived.Test.YtfgnemddamebaaaShelf
import Derived.Test.YtfgnemddamebaaaMem2
set_option linter.unusedVariables false
set_option linter.unusedSimpArgs false
set_option maxRecDepth 100000
namespace Go.Proofs.Ytfgnemddamebaaa
open Go.RowKit Go.Joins

/-- the block behind k fields -/
def encB (xs : List Int) (k : Nat) : ByteArray := ⟨(magicS ++ words4 (xs.take k) ++ List.replicate (4 + (116 - 4 * k)) 0).toArray⟩
/-- the whole block -/
def encV (xs : List Int) : ByteArray := ⟨(encS xs).toArray⟩

theorem encB_size (xs : List Int) (k : Nat) (h : xs.length = 10) (hk : k ≤ 9) : (encB xs k).size = 128 := by
  simp [encB, ByteArray.size, words4_length, magicS]; omega

theorem encV_size (xs : List Int) (h : xs.length = 10) : (encV xs).size = 128 := by
  have := encS_length xs h
  simpa [encV, ByteArray.size] using this

theorem encB_last (xs : List Int) (h : xs.length = 10) : (⟨(magicS ++ words4 (xs.take 10) ++ List.replicate 80 0).toArray⟩ : ByteArray) = encV xs := by
  rw [List.take_of_length_le (by omega)]; rfl

/-- one field more -/
theorem enc_step (xs : List Int) (k : Nat) (h : xs.length = 10) (hk : k < 10) (h0 : 0 ≤ xs[k]'(by omega)) (h1 : xs[k]'(by omega) < 4294967296) :
    putIOk (encB xs k) (8 + 4 * (k : Int)) 4 (xs[k]'(by omega)) = true ∧ putIV (encB xs k) (8 + 4 * (k : Int)) 4 (xs[k]'(by omega)) = ⟨(magicS ++ words4 (xs.take (k + 1)) ++ List.replicate (116 - 4 * k) 0).toArray⟩ := by
  have hf : fits (encB xs k).size (8 + 4 * (k : Int)) 4 = true := fits_iff.2 ⟨by omega, by omega, by rw [encB_size xs k h (by omega)]; omega⟩
  have hp : (256 : Nat) ^ (4 : Int).toNat = 4294967296 := by decide
  have ok : putIOk (encB xs k) (8 + 4 * (k : Int)) 4 (xs[k]'(by omega)) = true := by
    rw [putIOk, putOk, hf]
    simp only [Bool.true_and, Bool.and_eq_true, decide_eq_true_eq]
    exact ⟨h0, by omega⟩
  refine ⟨ok, ?_⟩
  rw [putIV, if_pos ok]
  have e1 : (encB xs k).data.toList = (magicS ++ words4 (xs.take k)) ++ List.replicate (4 + (116 - 4 * k)) 0 := by simp [encB]
  have e2 : (magicS ++ words4 (xs.take k)).length = 8 + 4 * k := by simp [words4_length, magicS]; omega
  have e3 : (8 + 4 * (k : Int)) = (((magicS ++ words4 (xs.take k)).length : Nat) : Int) := by rw [e2]; omega
  have e4 : (4 : Int) = ((4 : Nat) : Int) := rfl
  rw [e1, e3, e4, putL_zeros]
  congr 2
  rw [List.take_succ_eq_append_getElem (by omega), words4_append]
  simp [words4]

theorem encB_next (xs : List Int) (k : Nat) (hk : k < 9) : (⟨(magicS ++ words4 (xs.take (k + 1)) ++ List.replicate (116 - 4 * k) 0).toArray⟩ : ByteArray) = encB xs (k + 1) := by
  rw [encB, show 4 + (116 - 4 * (k + 1)) = 116 - 4 * k by omega]

/-- after k fields; at the tenth the whole block -/
def encK (xs : List Int) (k : Nat) : ByteArray := if k = 10 then encV xs else encB xs k

theorem encK_size (xs : List Int) (k : Nat) (h : xs.length = 10) (hk : k ≤ 10) : (encK xs k).size = 128 := by
  unfold encK
  split
  · exact encV_size xs h
  · exact encB_size xs k h (by omega)

theorem encK_step (xs : List Int) (k : Nat) (h : xs.length = 10) (hk : k < 10) (h0 : 0 ≤ xs[k]'(by omega)) (h1 : xs[k]'(by omega) < 4294967296) :
    putIOk (encK xs k) (8 + 4 * (k : Int)) 4 (xs[k]'(by omega)) = true ∧ putIV (encK xs k) (8 + 4 * (k : Int)) 4 (xs[k]'(by omega)) = encK xs (k + 1) := by
  have e : encK xs k = encB xs k := by rw [encK, if_neg (by omega)]
  obtain ⟨a, b⟩ := enc_step xs k h hk h0 h1
  rw [e]
  refine ⟨a, b.trans ?_⟩
  by_cases c : k = 9
  · subst c
    rw [encK, if_pos rfl, ← encB_last xs h]
  · rw [encK, if_neg (by omega)]; exact encB_next xs k (by omega)

theorem repeat_zeros : (⟨(Lib.repeatL (ByteArray.mk #[0]).data.toList 120).toArray⟩ : ByteArray) = zerosB 120 := by decide +kernel

theorem enc_start (xs : List Int) : (⟨#[103, 108, 105, 115, 115, 97, 100, 101]⟩ : ByteArray) ++ zerosB 120 = encK xs 0 := by
  rw [encK, if_neg (by omega), encB, zerosB]
  apply ByteArray.ext
  apply Array.toList_inj.1
  simp [magicS, words4]

theorem place_any (k : Int) (w : World) (h0 : 0 ≤ k) (h1 : k ≤ 100) : Calls Try.prog 41 #[.int .i64 k] w fun e w' => e = .returned (.int .i64 (8 + 4 * k)) ∧ w = w' := by
  go_enter Try.func41, Try.ntmps41
  go_wp2
  go_ret
  exact ⟨rfl, rfl⟩

theorem sup_index (b l m c i g f t n v : Int) (k : Nat) (hk : k < 10) : ∀ w, (Instr.index 72 (.agg #[.int .i64 b, .int .i64 l, .int .i64 m, .int .i64 c, .int .i64 i, .int .i64 g, .int .i64 f, .int .i64 t, .int .i64 n, .int .i64 v]) (.int .i64 (k : Int))).run Try.prog w = .ok (.int .i64 ([b, l, m, c, i, g, f, t, n, v][k]'(by simpa using hk))) w := by
  obtain rfl | rfl | rfl | rfl | rfl | rfl | rfl | rfl | rfl | rfl : k = 0 ∨ k = 1 ∨ k = 2 ∨ k = 3 ∨ k = 4 ∨ k = 5 ∨ k = 6 ∨ k = 7 ∨ k = 8 ∨ k = 9 := by omega
  · exact fun _ => by kernel_rfl
  · exact fun _ => by kernel_rfl
  · exact fun _ => by kernel_rfl
  · exact fun _ => by kernel_rfl
  · exact fun _ => by kernel_rfl
  · exact fun _ => by kernel_rfl
  · exact fun _ => by kernel_rfl
  · exact fun _ => by kernel_rfl
  · exact fun _ => by kernel_rfl
  · exact fun _ => by kernel_rfl

set_option maxHeartbeats 1000000 in
theorem enc_yes (b l m c i g f t n v : Int) (w : World) (h : superOk b l m c i g f t n v = true) :
    Calls Try.prog 23 #[sv b l m c i g f t n v] w fun e w' => e = .returned (.tuple #[.string (encV [b, l, m, c, i, g, f, t, n, v]), .int .i64 0]) ∧ Below w.heap.size w w' := by
  have hsm := superOk_small h
  have HC1 := Lib.hid (fun W => by have := check_any b l m c i g f t n v W; rw [h] at this; exact this : ∀ W, Calls Try.prog 24 #[sv b l m c i g f t n v] W fun e w' => e = .returned (.bool true) ∧ Below W.heap.size W w')
  have HC2 := Lib.hid (fun W => by have := Try.strings_Repeat ⟨#[0]⟩ 120 W (by decide) (by decide); rw [repeat_zeros] at this; exact this : ∀ W, Calls Try.prog 29 #[.string ⟨#[0]⟩, .int .i64 120] W fun e w' => e = .returned (.string (zerosB 120)) ∧ Below W.heap.size W w')
  have hz := zerosB_size 120
  have HX := Lib.hid (fun k hk => sup_index b l m c i g f t n v k hk)
  have HS := Lib.hid (enc_start [b, l, m, c, i, g, f, t, n, v])
  have HM := Lib.hid hsm
  clear h hsm
  go_enter Try.func23, Try.ntmps23
  go_wp2_with fail
  refine (HC1.out _).mono ?_
  rintro e w1 ⟨rfl, hb1⟩
  have B0 := (Below.refl w.heap.size w).alloc (Nat.le_refl _) (.cells #[.int .i64 b, .int .i64 l, .int .i64 m, .int .i64 c, .int .i64 i, .int .i64 g, .int .i64 f, .int .i64 t, .int .i64 n, .int .i64 v] 49)
  have B1 := below_chain B0 hb1 B0.size
  have hr := ((rowAt_alloc w #[.int .i64 b, .int .i64 l, .int .i64 m, .int .i64 c, .int .i64 i, .int .i64 g, .int .i64 f, .int .i64 t, .int .i64 n, .int .i64 v] 49).below hb1 (rowAt_alloc w _ _).lt)
  go_wp2_with fail
  refine (HC2.out _).mono ?_
  rintro e w2 ⟨rfl, hb2⟩
  have B2 := below_chain B1 hb2 B1.size
  have hr2 := hr.below hb2 hr.lt
  obtain ⟨c0, c1, c2, c3, c4, c5, c6, c7, c8, c9⟩ := sup_cells hr2
  go_wp2_with fail
  go_loopw [4, 35] (fun o j wr => ∃ k : Nat, k ≤ 10 ∧ j = .int .i64 k ∧ o = .string (encK [b, l, m, c, i, g, f, t, n, v] k) ∧ Below w.heap.size w wr) (fun _ j _ => 10 - (intOf j).toNat)
  case atStart => exact ⟨0, by omega, rfl, by rw [HS.out], B2⟩
  case round =>
    clear c0  c1  c2  c3  c4  c5  c6  c7  c8  c9 hr hr2 hb1 hb2
    obtain ⟨k, hk, rfl, rfl, B3⟩ := hrel
    by_cases hlt : k < 10
    · have hx := HX.out k hlt
      obtain ⟨x, hxe⟩ : ∃ x, x = [b, l, m, c, i, g, f, t, n, v][k]'(by simpa using hlt) := ⟨_, rfl⟩
      rw [← hxe] at hx
      obtain ⟨s0, s1⟩ := HM.out x (by rw [hxe]; exact List.getElem_mem _)
      have HC3 : Hid (∀ W, Calls Try.prog 40 #[.string (encK [b, l, m, c, i, g, f, t, n, v] k), .int .i64 (8 + 4 * (k : Int)), .int .i64 4, .int .i64 x] W fun e w' => e = .returned (.tuple #[.string (encK [b, l, m, c, i, g, f, t, n, v] (k + 1)), .bool true]) ∧ Below W.heap.size W w') := fun W => by
        obtain ⟨a1, a2⟩ := encK_step [b, l, m, c, i, g, f, t, n, v] k rfl hlt (by rw [← hxe]; exact s0) (by rw [← hxe]; omega)
        have := putint_any (encK [b, l, m, c, i, g, f, t, n, v] k) (8 + 4 * (k : Int)) 4 x W (by rw [encK_size _ _ rfl hk]; decide) (by omega)
        rw [hxe, a1, a2] at this
        rw [hxe]; exact this
      clear hxe
      go_wp2_with fail
      refine (place_any _ _ (by omega) (by omega)).mono ?_
      rintro e w4 ⟨rfl, rfl⟩
      go_wp2_with fail
      refine (HC3.out _).mono ?_
      rintro e w4 ⟨rfl, hb4⟩
      have B4 := below_chain B3 hb4 B3.size
      go_wp2_with fail
      go_roundw
      case rel => exact ⟨k + 1, by omega, by go_num, rfl, B4⟩
      case measure => simp [intOf]; omega
    · obtain rfl : k = 10 := by omega
      go_wp2_with fail
      go_ret2
      exact ⟨rfl, B3⟩

set_option maxHeartbeats 1000000 in
theorem enc_no (b l m c i g f t n v : Int) (w : World) (h : superOk b l m c i g f t n v = false) :
    Calls Try.prog 23 #[sv b l m c i g f t n v] w fun e w' => e = .returned (.tuple #[.string ⟨#[]⟩, .int .i64 2]) ∧ Below w.heap.size w w' := by
  have HC1 := Lib.hid (fun W => by have := check_any b l m c i g f t n v W; rw [h] at this; exact this : ∀ W, Calls Try.prog 24 #[sv b l m c i g f t n v] W fun e w' => e = .returned (.bool false) ∧ Below W.heap.size W w')
  clear h
  go_enter Try.func23, Try.ntmps23
  go_wp2_with fail
  refine (HC1.out _).mono ?_
  rintro e w1 ⟨rfl, hb1⟩
  have B0 := (Below.refl w.heap.size w).alloc (Nat.le_refl _) (.cells #[.int .i64 b, .int .i64 l, .int .i64 m, .int .i64 c, .int .i64 i, .int .i64 g, .int .i64 f, .int .i64 t, .int .i64 n, .int .i64 v] 49)
  have B1 := below_chain B0 hb1 B0.size
  go_wp2_with fail
  go_ret2
  exact ⟨rfl, B1⟩

end Go.Proofs.Ytfgnemddamebaaa
