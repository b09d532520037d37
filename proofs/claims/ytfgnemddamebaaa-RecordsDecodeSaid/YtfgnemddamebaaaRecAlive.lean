/- The examples of the records' statements come out. -/
import Derived.Test.YtfgnemddamebaaaRecWalks9
import Derived.Test.YtfgnemddamebaaaRecMask
set_option linter.unusedVariables false
set_option linter.unusedSimpArgs false
set_option maxRecDepth 100000
namespace Go.Proofs.Ytfgnemddamebaaa
open Go.RowKit Go.Joins

theorem info_u8' : (Try.prog.info? 5).map (fun i => (i.zero, i.size, i.bytes)) = some (some (.int .u8 0), 1, 1) := by kernel_rfl

set_option maxHeartbeats 1000000 in
theorem block_zero (w : World) : Calls Try.prog 34 #[.int .u8 0] w fun e w' => e = .returned (.string (zerosB 128)) ∧ Below w.heap.size w w' := by
  obtain ⟨i0, hi, hz0, hz1, hz2⟩ := info_parts info_u8'
  obtain ⟨W1, hmk, hbm, hrm⟩ := make_bytes (P := Try.prog) w 62 5 i0 Try.underlying62 hi hz0 hz1 hz2 128 (by decide)
  have hmk' : (Instr.makeSlice 62 (.int .i64 128) (.int .i64 128)).run Try.prog w = .ok (.slice (some ⟨w.heap.size, 0, none⟩) 128 128) W1 := hmk
  have hl := hrm.lt
  clear hi hz0 hz1 hz2 hmk
  go_enter Try.func34, Try.ntmps34
  go_wp2_with fail
  clear hmk'
  go_loopw [4] (fun jj wr => ∃ j : Nat, j ≤ 128 ∧ jj = .int .i64 j ∧ RowAt wr w.heap.size (bcells (List.replicate 128 0)) ∧ Below w.heap.size w wr) (fun jj _ => 128 - (intOf jj).toNat)
  case atStart => exact ⟨0, by omega, rfl, hrm, hbm⟩
  case round =>
    clear hrm hbm hl
    obtain ⟨j, hj, rfl, hr, hb⟩ := hrel
    have hl := hr.lt
    by_cases hlt : j < 128
    · have hc := hr.cell j (by rw [bcells_length]; simp; omega)
      rw [bcells_get, List.getElem?_replicate_of_lt hlt] at hc
      have hc' : wr.cell? ⟨w.heap.size, j, none⟩ = some (.int .u8 0) := hc
      have hf := hr.frozen j (by rw [bcells_length]; simp; omega)
      have hs := hr.set j (.int .u8 0)
      have e : (bcells (List.replicate 128 0)).set j (.int .u8 0) = bcells (List.replicate 128 0) := by
        have := bcells_set (List.replicate 128 0) j 0
        rw [List.set_replicate_self] at this
        exact this
      rw [e] at hs
      clear hc e
      go_wp2_with fail
      go_roundw
      case rel => exact ⟨j + 1, by omega, by go_num, hs, hb.setCell (by simp) _⟩
      case measure => simp [intOf]; omega
    · have h1 : ¬ (j : Int) < 128 := by omega
      have hback : (convert 62 9 (.slice (some ⟨w.heap.size, 0, none⟩) 128 128)).run Try.prog wr = .ok (.string (zerosB 128)) wr := conv_string (P := Try.prog) wr 62 9 5 w.heap.size 128 128 _ Try.underlying62 Try.underlying5 Try.underlying9 hr (by simp)
      go_wp2_with fail
      go_ret
      exact ⟨rfl, hb⟩

def rcA : Rc := ⟨4, 258, 0, [], [], 1⟩
def rcB : Rc := ⟨1, 0, 511, [], [], 0⟩
theorem rca_ok : rcA.ok = true ∧ rcB.ok = false ∧ (tx rcA.bytes).size = 128 ∧ (tx rcA.bytes).extract 0 18 = ⟨#[71, 76, 74, 119, 4, 2, 1, 0, 0, 0, 0, 0, 0, 1, 0, 0, 0, 0]⟩ ∧ magic (tx rcA.bytes) = true ∧ magic (zerosB 128) = false := by decide +kernel
theorem rca_mask : (nulB ++ rest4 (tx rcA.bytes)).size = 128 ∧ (nulB ++ rest4 (tx rcA.bytes)).extract 0 4 = nulB ∧ magB ++ rest4 (nulB ++ rest4 (tx rcA.bytes)) = tx rcA.bytes := by decide +kernel

theorem rca_fit : rcA.fit := ⟨by decide, by decide, by decide, by decide⟩

set_option maxHeartbeats 2000000 in
theorem alive08 (w : World) : Calls Try.prog 14 #[] w fun e w' => e = .returned (.bool true) ∧ Below w.heap.size w w' := by
  obtain ⟨k1, k2, k3, k4, k5, k6⟩ := rca_ok
  obtain ⟨m1, m2, m3⟩ := rca_mask
  have hd := recDec_bytes k1 rca_fit
  have hp := recP_bytes k1 rca_fit
  have hdz : recDec (zerosB 128) = false := Bool.eq_false_iff.2 fun q => by
    have h2 := recDec_magic q
    revert h2; decide +kernel
  obtain ⟨Q, hQ⟩ : ∃ Q, Q = tx rcA.bytes := ⟨_, rfl⟩
  have HC1 := Lib.hid (fun W => by have := recenc_yes rcA none 0 none 0 W rca_fit ⟨.inl rfl, .inl rfl⟩ k1; rw [← hQ] at this; exact this : ∀ W, Calls Try.prog 11 #[rv 4 258 0 none 0 0 none 0 0 1] W fun e w' => e = .returned (.tuple #[.string Q, .int .i64 0]) ∧ Below W.heap.size W w')
  rw [← hQ] at k3 k4 k5 m1 m2 m3 hd hp
  have HC2 := Lib.hid (fun W => by have := pdec_yes Q W (by rw [k3]; decide) hd; rw [hp] at this; exact this.mono (fun e w' h => by obtain ⟨ah, ch, am, cm, h1, h2, h3, h4⟩ := h; exact ⟨ah, ch, am, cm, h1, h4⟩) : ∀ W, Calls Try.prog 15 #[.string Q] W fun e w' => ∃ ah ch am cm, e = .returned (.tuple #[rv 4 258 0 ah 0 ch am 0 cm 1, .int .i64 0]) ∧ Below W.heap.size W w')
  have HC3 := Lib.hid (fun W => recenc_no rcB none 0 none 0 W (by decide) (by decide) ⟨.inl rfl, .inl rfl⟩ k2 : ∀ W, Calls Try.prog 11 #[rv 1 0 511 none 0 0 none 0 0 0] W fun e w' => e = .returned (.tuple #[.string ⟨#[]⟩, .int .i64 2]) ∧ Below W.heap.size W w')
  have HC4 := Lib.hid (fun W => pdec_no (zerosB 128) W (by rw [zerosB_size]; decide) hdz)
  have HC5 := Lib.hid (fun W => mask_yes Q W (by rw [k3]; decide) k5)
  have HC6 := Lib.hid (fun W => by have := unmask_yes (nulB ++ rest4 Q) W (by rw [m1]; decide) (by rw [m1]; decide); rw [m3] at this; exact this : ∀ W, Calls Try.prog 19 #[.string (nulB ++ rest4 Q)] W fun e w' => e = .returned (.string Q) ∧ W = w')
  clear k1 k2 hd hp hdz k5 k6 m3 hQ
  generalize nulB ++ rest4 Q = R at *
  have t1 : ((Q.extract 0 18).toList == [71, 76, 74, 119, 4, 2, 1, 0, 0, 0, 0, 0, 0, 1, 0, 0, 0, 0]) = true := by rw [k4]; decide +kernel
  have t2 : ((R.extract 0 4).toList == [0, 0, 0, 0]) = true := by rw [m2]; decide +kernel
  have t3 : (Q.toList == Q.toList) = true := by simp
  clear k4 m2
  have n1 : (18 : Int) ≤ (Q.size : Int) := by omega
  have n2 : (4 : Int) ≤ (R.size : Int) := by omega
  have KQ := Lib.hid k3
  have hQ9 : Q.size ≤ 128 := by omega
  have hR9 : R.size ≤ 128 := by omega
  have e1 : ((Q.size : Nat) : Int) = 128 := by omega
  clear k3 m1
  go_enter Try.func14, Try.ntmps14
  go_wp2_with fail
  refine (HC1.out _).mono ?_
  rintro e w1 ⟨rfl, hb1⟩
  have B1 := below_chain (Below.refl w.heap.size w) hb1 (Nat.le_refl _)
  go_wp2_with fail
  refine (HC2.out _).mono ?_
  rintro e w2 ⟨ah, ch, am, cm, rfl, hb2⟩
  have B2 := below_chain B1 hb2 B1.size
  have B2a := B2.alloc B2.size (.cells (rcells 4 258 0 ah 0 ch am 0 cm 1) 27)
  have r2 := rowAt_alloc w2 (rcells 4 258 0 ah 0 ch am 0 cm 1) 27
  go_wp2_with fail
  refine (HC3.out _).mono ?_
  rintro e w3 ⟨rfl, hb3⟩
  have B3 := below_chain B2a hb3 B2a.size
  have r3 := r2.below hb3 r2.lt
  clear r2 hb3 B2a
  go_wp2_with fail
  refine (block_zero _).mono ?_
  rintro e w4 ⟨rfl, hb4⟩
  have B4 := below_chain B3 hb4 B3.size
  have r4 := r3.below hb4 r3.lt
  clear r3 hb4 B3
  go_wp2_with fail
  refine (HC4.out _).mono ?_
  rintro e w5 ⟨rfl, hb5⟩
  have B5 := below_chain B4 hb5 B4.size
  have r5 := r4.below hb5 r4.lt
  have L5 := r5.lt
  have B5a := B5.alloc B5.size (.cells #[.int .i64 0, .int .u64 0, .int .i64 0, .slice none 0 0, .slice none 0 0, .int .u32 0] 27)
  have r6 := r5.alloc (.cells #[.int .i64 0, .int .u64 0, .int .i64 0, .slice none 0 0, .slice none 0 0, .int .u32 0] 27)
  clear r4 hb5 B4
  go_wp2_with fail
  refine (HC5.out _).mono ?_
  rintro e w6 ⟨rfl, rfl⟩
  have c1 := r5.cell 1 (by simp)
  go_wp2_with fail
  refine (HC6.out _).mono ?_
  rintro e w6 ⟨rfl, rfl⟩
  go_wp2_with fail
  go_ret
  exact ⟨rfl, B5a⟩

end Go.Proofs.Ytfgnemddamebaaa
