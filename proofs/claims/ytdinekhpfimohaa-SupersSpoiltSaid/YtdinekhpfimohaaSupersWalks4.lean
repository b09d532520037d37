/- Walks: the reference's superblock's block. -/
import Derived.Test.YtdinekhpfimohaaSupersWalks3
set_option linter.unusedVariables false
set_option linter.unusedSimpArgs false
set_option maxRecDepth 100000
namespace Go.Proofs.Ytdinekhpfimohaa
open Go.RowKit Go.Joins

/-- the bytes behind k fields -/
def outB (xs : List Int) (k : Nat) : ByteArray := ⟨(magicS ++ words4 (xs.take k)).toArray⟩
theorem outB_size (xs : List Int) (k : Nat) (h : xs.length = 10) (hk : k ≤ 10) : (outB xs k).size = 8 + 4 * k := by
  simp [outB, ByteArray.size, words4_length, magicS]; omega

/-- a number of four bytes -/
def word4 (x : Int) : ByteArray := ⟨(leBytes 4 x.toNat).toArray⟩
theorem word4_size (x : Int) : (word4 x).size = 4 := by simp [word4, ByteArray.size, leBytes_length]

theorem put_word4 (x : Int) (h0 : 0 ≤ x) (h1 : x < 4294967296) : putIOk ⟨#[0, 0, 0, 0]⟩ 0 4 x = true ∧ putIV ⟨#[0, 0, 0, 0]⟩ 0 4 x = word4 x := by
  have hf : fits (ByteArray.size ⟨#[0, 0, 0, 0]⟩) 0 4 = true := by decide
  have hp : (256 : Nat) ^ (4 : Int).toNat = 4294967296 := by decide
  have ok : putIOk ⟨#[0, 0, 0, 0]⟩ 0 4 x = true := by
    rw [putIOk, putOk, hf]
    simp only [Bool.true_and, Bool.and_eq_true, decide_eq_true_eq]
    exact ⟨h0, by omega⟩
  refine ⟨ok, ?_⟩
  rw [putIV, if_pos ok, word4]
  congr 2

theorem outB_next (xs : List Int) (k : Nat) (hk : k < xs.length) : outB xs k ++ word4 xs[k] = outB xs (k + 1) := by
  apply ByteArray.ext
  apply Array.toList_inj.1
  simp only [outB, word4, ByteArray.data_append, Array.toList_append]
  rw [List.take_succ_eq_append_getElem hk, words4_append]
  simp [words4]

theorem outB_last (xs : List Int) (h : xs.length = 10) : outB xs 10 ++ zerosB 80 = encV xs := by
  apply ByteArray.ext
  apply Array.toList_inj.1
  simp only [outB, zerosB, encV, encS, ByteArray.data_append, Array.toList_append]
  rw [List.take_of_length_le (by omega)]

theorem row_cell {w : World} {K : Nat} {xs : List Int} (h : RowAt w K (xs.map (Value.int .i64))) (k : Nat) (hk : k < xs.length) : w.cell? ⟨K, k, none⟩ = some (.int .i64 xs[k]) := by
  rw [h.cell k (by simpa using hk)]
  simp [hk]

theorem info_u8 : (Try.prog.info? 5).map (fun i => (i.zero, i.size, i.bytes)) = some (some (.int .u8 0), 1, 1) := by kernel_rfl

set_option maxHeartbeats 1000000 in
theorem renc_yes (b l m c i g f t n v : Int) (w : World) (h : superOk b l m c i g f t n v = true) :
    Calls Try.prog 16 #[sv b l m c i g f t n v] w fun e w' => e = .returned (.tuple #[.string (encV [b, l, m, c, i, g, f, t, n, v]), .int .i64 0]) ∧ Below w.heap.size w w' := by
  have hsm := superOk_small h
  have HC1 := Lib.hid (fun W => by have := rcheck_any b l m c i g f t n v W; rw [h] at this; exact this : ∀ W, Calls Try.prog 18 #[sv b l m c i g f t n v] W fun e w' => e = .returned (.bool true) ∧ Below W.heap.size W w')
  have HM := Lib.hid hsm
  clear h hsm
  obtain ⟨i0, hi, hz0, hz1, hz2⟩ := info_parts info_u8
  have HI := Lib.hid (And.intro hi (And.intro hz0 (And.intro hz1 hz2)))
  clear hi hz0 hz1 hz2
  go_enter Try.func16, Try.ntmps16
  go_wp2_with fail
  refine (HC1.out _).mono ?_
  rintro e w1 ⟨rfl, hb1⟩
  have B0 := (Below.refl w.heap.size w).alloc (Nat.le_refl _) (.cells #[.int .i64 b, .int .i64 l, .int .i64 m, .int .i64 c, .int .i64 i, .int .i64 g, .int .i64 f, .int .i64 t, .int .i64 n, .int .i64 v] 23)
  have B1 := below_chain B0 hb1 B0.size
  have hr := ((rowAt_alloc w #[.int .i64 b, .int .i64 l, .int .i64 m, .int .i64 c, .int .i64 i, .int .i64 g, .int .i64 f, .int .i64 t, .int .i64 n, .int .i64 v] 23).below hb1 (rowAt_alloc w _ _).lt)
  obtain ⟨c0, c1, c2, c3, c4, c5, c6, c7, c8, c9⟩ := sup_cells hr
  go_wp2_with fail
  go_loopw [4, 6] (fun o j wr => ∃ k : Nat, k ≤ 10 ∧ j = .int .i64 k ∧ o = .string (outB [b, l, m, c, i, g, f, t, n, v] k) ∧ RowAt wr w1.heap.size ([b, l, m, c, i, g, f, t, n, v].map (Value.int .i64)) ∧ Below w.heap.size w wr) (fun _ j _ => 10 - (intOf j).toNat)
  case atStart => exact ⟨0, by omega, rfl, rfl, rowAt_alloc w1 #[.int .i64 b, .int .i64 l, .int .i64 m, .int .i64 c, .int .i64 i, .int .i64 g, .int .i64 f, .int .i64 t, .int .i64 n, .int .i64 v] 3, B1.alloc B1.size _⟩
  case round =>
    clear c0  c1  c2  c3  c4  c5  c6  c7  c8  c9 hr hb1
    obtain ⟨k, hk, rfl, rfl, hr3, B3⟩ := hrel
    by_cases hlt : k < 10
    · have hx := row_cell hr3 k (by simpa using hlt)
      obtain ⟨x, hxe⟩ : ∃ x, x = [b, l, m, c, i, g, f, t, n, v][k]'(by simpa using hlt) := ⟨_, rfl⟩
      rw [← hxe] at hx
      obtain ⟨s0, s1⟩ := HM.out x (by rw [hxe]; exact List.getElem_mem _)
      have HC3 : Hid (∀ W, Calls Try.prog 34 #[.string ⟨#[0, 0, 0, 0]⟩, .int .i64 0, .int .i64 4, .int .i64 x] W fun e w' => e = .returned (.tuple #[.string (word4 x), .bool true]) ∧ Below W.heap.size W w') := fun W => by
        obtain ⟨a1, a2⟩ := put_word4 x s0 (by omega)
        have := rputint_any ⟨#[0, 0, 0, 0]⟩ 0 4 x W (by decide) (by omega)
        rw [a1, a2] at this
        exact this
      have HN : Hid (outB [b, l, m, c, i, g, f, t, n, v] k ++ word4 x = outB [b, l, m, c, i, g, f, t, n, v] (k + 1)) := by show _ = _; rw [hxe]; exact outB_next [b, l, m, c, i, g, f, t, n, v] k (by simpa using hlt)
      have z1 := outB_size [b, l, m, c, i, g, f, t, n, v] k rfl hk
      have z2 := word4_size x
      have z3 : ¬ 9223372036854775807 < 8 + 4 * k + 4 := by omega
      clear hxe
      go_wp2_with fail
      refine (HC3.out _).mono ?_
      rintro e w4 ⟨rfl, hb4⟩
      have B4 := below_chain B3 hb4 B3.size
      have hr4 := hr3.below hb4 hr3.lt
      go_wp2_with fail
      go_roundw
      case rel => exact ⟨k + 1, by omega, by go_num, by rw [HN.out], hr4, B4⟩
      case measure => simp [intOf]; omega
    · obtain rfl : k = 10 := by omega
      have z1 : (outB [b, l, m, c, i, g, f, t, n, v] 10).size = 48 := outB_size [b, l, m, c, i, g, f, t, n, v] 10 rfl (by omega)
      have z2 := zerosB_size 80
      obtain ⟨W1, hmk, hbm, hrm⟩ := make_bytes (P := Try.prog) wr 42 5 i0 Try.underlying42 HI.out.1 HI.out.2.1 HI.out.2.2.1 HI.out.2.2.2 80 (by decide)
      have hmk' : (Instr.makeSlice 42 (.int .i64 80) (.int .i64 80)).run Try.prog wr = .ok (.slice (some ⟨wr.heap.size, 0, none⟩) 80 80) W1 := hmk
      have hback : (convert 42 9 (.slice (some ⟨wr.heap.size, 0, none⟩) 80 80)).run Try.prog W1 = .ok (.string (zerosB 80)) W1 := conv_string (P := Try.prog) W1 42 9 5 wr.heap.size 80 80 _ Try.underlying42 Try.underlying5 Try.underlying9 hrm (by simp)
      have HL := Lib.hid (outB_last [b, l, m, c, i, g, f, t, n, v] rfl)
      have B5 := below_chain B3 hbm B3.size
      clear hmk hrm hbm hr3
      go_wp2_with fail
      go_ret2
      rw [HL.out]
      exact ⟨rfl, B5⟩

set_option maxHeartbeats 1000000 in
theorem renc_no (b l m c i g f t n v : Int) (w : World) (h : superOk b l m c i g f t n v = false) :
    Calls Try.prog 16 #[sv b l m c i g f t n v] w fun e w' => e = .returned (.tuple #[.string ⟨#[]⟩, .int .i64 2]) ∧ Below w.heap.size w w' := by
  have HC1 := Lib.hid (fun W => by have := rcheck_any b l m c i g f t n v W; rw [h] at this; exact this : ∀ W, Calls Try.prog 18 #[sv b l m c i g f t n v] W fun e w' => e = .returned (.bool false) ∧ Below W.heap.size W w')
  clear h
  go_enter Try.func16, Try.ntmps16
  go_wp2_with fail
  refine (HC1.out _).mono ?_
  rintro e w1 ⟨rfl, hb1⟩
  have B0 := (Below.refl w.heap.size w).alloc (Nat.le_refl _) (.cells #[.int .i64 b, .int .i64 l, .int .i64 m, .int .i64 c, .int .i64 i, .int .i64 g, .int .i64 f, .int .i64 t, .int .i64 n, .int .i64 v] 23)
  have B1 := below_chain B0 hb1 B0.size
  go_wp2_with fail
  go_ret2
  exact ⟨rfl, B1⟩

end Go.Proofs.Ytdinekhpfimohaa
