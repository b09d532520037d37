/- The examples of the superblocks' statements come out. -/
import Derived.Test.YtfgnemddamebaaaSupersWalks5
set_option linter.unusedVariables false
set_option linter.unusedSimpArgs false
set_option maxRecDepth 100000
namespace Go.Proofs.Ytfgnemddamebaaa
open Go.RowKit Go.Joins

theorem info_u8s : (Try.prog.info? 5).map (fun i => (i.zero, i.size, i.bytes)) = some (some (.int .u8 0), 1, 1) := by kernel_rfl
theorem sup_c1 : superOk 256 128 8 134 0 0 0 0 0 0 = true ∧ superOk 256 128 8 257 0 0 0 0 0 0 = false ∧ superOk 256 128 8 0 7 3 200 190 4 3 = true ∧ superOk 256 128 8 0 7 3 200 190 4 4 = false := by decide +kernel
theorem sup_c2 : decOk (zerosB 128) = false := by decide +kernel
theorem sup_c3 : decOk (encV [256, 128, 8, 134, 0, 0, 0, 0, 0, 0]) = true ∧ (encV [256, 128, 8, 134, 0, 0, 0, 0, 0, 0]).size = 128 ∧ (encV [256, 128, 8, 134, 0, 0, 0, 0, 0, 0]).extract 0 24 = ⟨#[103, 108, 105, 115, 115, 97, 100, 101, 0, 1, 0, 0, 128, 0, 0, 0, 8, 0, 0, 0, 134, 0, 0, 0]⟩ := by decide +kernel
theorem sup_c4 : dec (encV [256, 128, 8, 134, 0, 0, 0, 0, 0, 0]) 0 = 256 ∧ dec (encV [256, 128, 8, 134, 0, 0, 0, 0, 0, 0]) 1 = 128 ∧ dec (encV [256, 128, 8, 134, 0, 0, 0, 0, 0, 0]) 2 = 8 ∧ dec (encV [256, 128, 8, 134, 0, 0, 0, 0, 0, 0]) 3 = 134 ∧ dec (encV [256, 128, 8, 134, 0, 0, 0, 0, 0, 0]) 4 = 0 ∧ dec (encV [256, 128, 8, 134, 0, 0, 0, 0, 0, 0]) 5 = 0 ∧ dec (encV [256, 128, 8, 134, 0, 0, 0, 0, 0, 0]) 6 = 0 ∧ dec (encV [256, 128, 8, 134, 0, 0, 0, 0, 0, 0]) 7 = 0 ∧ dec (encV [256, 128, 8, 134, 0, 0, 0, 0, 0, 0]) 8 = 0 ∧ dec (encV [256, 128, 8, 134, 0, 0, 0, 0, 0, 0]) 9 = 0 := by decide +kernel

set_option maxHeartbeats 2000000 in
theorem alive10 (w : World) : Calls Try.prog 26 #[] w fun e w' => e = .returned (.bool true) ∧ Below w.heap.size w w' := by
  obtain ⟨k1, k2, k3, k4⟩ := sup_c1
  obtain ⟨m1, m2, m3⟩ := sup_c3
  obtain ⟨n0, n1, n2, n3, n4, n5, n6, n7, n8, n9⟩ := sup_c4
  obtain ⟨Q, hQ⟩ : ∃ Q, Q = encV [256, 128, 8, 134, 0, 0, 0, 0, 0, 0] := ⟨_, rfl⟩
  have HC1 := Lib.hid (fun W => by have := enc_yes 256 128 8 134 0 0 0 0 0 0 W k1; rw [← hQ] at this; exact this : ∀ W, Calls Try.prog 23 #[sv 256 128 8 134 0 0 0 0 0 0] W fun e w' => e = .returned (.tuple #[.string Q, .int .i64 0]) ∧ Below W.heap.size W w')
  rw [← hQ] at m1 m2 m3 n0 n1 n2 n3 n4 n5 n6 n7 n8 n9
  have HC2 := Lib.hid (fun W => by have := dec_yes Q W (by rw [m2]; decide) m1; rw [n0, n1, n2, n3, n4, n5, n6, n7, n8, n9] at this; exact this : ∀ W, Calls Try.prog 25 #[.string Q] W fun e w' => e = .returned (.tuple #[sv 256 128 8 134 0 0 0 0 0 0, .int .i64 0]) ∧ Below W.heap.size W w')
  have HC3 := Lib.hid (fun W => dec_no (zerosB 128) W (by rw [zerosB_size]; decide) sup_c2)
  have HC4 := Lib.hid (fun W => by have := check_any 256 128 8 257 0 0 0 0 0 0 W; rw [k2] at this; exact this : ∀ W, Calls Try.prog 24 #[sv 256 128 8 257 0 0 0 0 0 0] W fun e w' => e = .returned (.bool false) ∧ Below W.heap.size W w')
  have HC5 := Lib.hid (fun W => by have := check_any 256 128 8 0 7 3 200 190 4 3 W; rw [k3] at this; exact this : ∀ W, Calls Try.prog 24 #[sv 256 128 8 0 7 3 200 190 4 3] W fun e w' => e = .returned (.bool true) ∧ Below W.heap.size W w')
  have HC6 := Lib.hid (fun W => by have := check_any 256 128 8 0 7 3 200 190 4 4 W; rw [k4] at this; exact this : ∀ W, Calls Try.prog 24 #[sv 256 128 8 0 7 3 200 190 4 4] W fun e w' => e = .returned (.bool false) ∧ Below W.heap.size W w')
  clear k1 k2 k3 k4 m1 n0 n1 n2 n3 n4 n5 n6 n7 n8 n9 hQ
  obtain ⟨i0, hi, hz0, hz1, hz2⟩ := info_parts info_u8s
  have HI := Lib.hid (And.intro hi (And.intro hz0 (And.intro hz1 hz2)))
  clear hi hz0 hz1 hz2
  go_enter Try.func26, Try.ntmps26
  go_wp2_with fail
  refine (HC1.out _).mono ?_
  rintro e w1 ⟨rfl, hb1⟩
  have B0 := (Below.refl w.heap.size w).alloc (Nat.le_refl _) (.cells #[.int .i64 256, .int .i64 128, .int .i64 8, .int .i64 134, .int .i64 0, .int .i64 0, .int .i64 0, .int .i64 0, .int .i64 0, .int .i64 0] 49)
  have B1 := below_chain B0 hb1 B0.size
  have hr1 := (rowAt_alloc w #[.int .i64 256, .int .i64 128, .int .i64 8, .int .i64 134, .int .i64 0, .int .i64 0, .int .i64 0, .int .i64 0, .int .i64 0, .int .i64 0] 49).below hb1 (rowAt_alloc w _ _).lt
  go_wp2_with fail
  refine (HC2.out _).mono ?_
  rintro e w2 ⟨rfl, hb2⟩
  have B2 := below_chain B1 hb2 B1.size
  have hr2 := hr1.below hb2 hr1.lt
  have B2a := B2.alloc B2.size (.cells #[.int .i64 256, .int .i64 128, .int .i64 8, .int .i64 134, .int .i64 0, .int .i64 0, .int .i64 0, .int .i64 0, .int .i64 0, .int .i64 0] 49)
  have hr2a := hr2.alloc (.cells #[.int .i64 256, .int .i64 128, .int .i64 8, .int .i64 134, .int .i64 0, .int .i64 0, .int .i64 0, .int .i64 0, .int .i64 0, .int .i64 0] 49)
  have ht2a := rowAt_alloc w2 #[.int .i64 256, .int .i64 128, .int .i64 8, .int .i64 134, .int .i64 0, .int .i64 0, .int .i64 0, .int .i64 0, .int .i64 0, .int .i64 0] 49
  obtain ⟨W3, hmk, hbm, hrm⟩ := make_bytes (P := Try.prog) (w2.alloc (.cells #[.int .i64 256, .int .i64 128, .int .i64 8, .int .i64 134, .int .i64 0, .int .i64 0, .int .i64 0, .int .i64 0, .int .i64 0, .int .i64 0] 49)) 62 5 i0 Try.underlying62 HI.out.1 HI.out.2.1 HI.out.2.2.1 HI.out.2.2.2 128 (by decide)
  simp only [World.size_alloc] at hmk hrm
  have hmk' : (Instr.makeSlice 62 (.int .i64 128) (.int .i64 128)).run Try.prog (w2.alloc (.cells #[.int .i64 256, .int .i64 128, .int .i64 8, .int .i64 134, .int .i64 0, .int .i64 0, .int .i64 0, .int .i64 0, .int .i64 0, .int .i64 0] 49)) = .ok (.slice (some ⟨w2.heap.size + 1, 0, none⟩) 128 128) W3 := hmk
  have hback : (convert 62 9 (.slice (some ⟨w2.heap.size + 1, 0, none⟩) 128 128)).run Try.prog W3 = .ok (.string (zerosB 128)) W3 := conv_string (P := Try.prog) W3 62 9 5 (w2.heap.size + 1) 128 128 _ Try.underlying62 Try.underlying5 Try.underlying9 hrm (by simp)
  have B3 := below_chain B2a hbm B2a.size
  have hr3 := hr2a.below hbm hr2a.lt
  have ht3 := ht2a.below hbm ht2a.lt
  clear hmk hrm hbm
  go_wp2_with fail
  refine (HC3.out _).mono ?_
  rintro e w4 ⟨rfl, hb4⟩
  have B4 := below_chain B3 hb4 B3.size
  have hr4 := hr3.below hb4 hr3.lt
  have ht4 := ht3.below hb4 ht3.lt
  obtain ⟨c0, c1, c2, c3, c4, c5, c6, c7, c8, c9⟩ := sup_cells hr4
  obtain ⟨d0, d1, d2, d3, d4, d5, d6, d7, d8, d9⟩ := sup_cells ht4
  have l1 := hr4.lt
  have l2 := ht4.lt
  go_wp2_with fail
  refine (HC4.out _).mono ?_
  rintro e w5 ⟨rfl, hb5⟩
  have B5 := below_chain (B4.alloc B4.size _) hb5 (B4.alloc B4.size _).size
  go_wp2_with fail
  refine (HC5.out _).mono ?_
  rintro e w6 ⟨rfl, hb6⟩
  have B6 := below_chain B5 hb6 B5.size
  go_wp2_with fail
  refine (HC6.out _).mono ?_
  rintro e w7 ⟨rfl, hb7⟩
  have B7 := below_chain B6 hb7 B6.size
  go_wp2_with fail
  go_ret
  exact ⟨rfl, B7⟩

end Go.Proofs.Ytfgnemddamebaaa
