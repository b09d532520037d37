/- The examples of the inodes' statements come out. -/
import Derived.Test.YtdeemaafngehoaaInoWalks5
import Derived.Test.YtdeemaafngehoaaInoSame
set_option linter.unusedVariables false
set_option linter.unusedSimpArgs false
set_option maxRecDepth 100000
namespace Go.Proofs.Ytdeemaafngehoaa
open Go.RowKit Go.Joins

theorem info_u8b : (Try.prog.info? 5).map (fun i => (i.zero, i.size, i.bytes)) = some (some (.int .u8 0), 1, 1) := by kernel_rfl

def exI : Ino := ⟨1, true, 1, 300, 0, [(0, 100, 3)]⟩
def exB : Ino := ⟨2, false, 0, 0, 0, [(0, 100, 2), (1, 200, 1)]⟩
theorem exI_ok : exI.ok = true := by decide +kernel
theorem exB_ok : exB.ok = false := by decide +kernel
theorem zero_ok : Ino.zero.ok = true := by decide +kernel
theorem zero_bytes : tx Ino.zero.bytes = zerosB 64 := by decide +kernel
theorem exI_bytes : (tx exI.bytes).size = 64 ∧ (tx exI.bytes).extract 0 26 = ⟨#[1, 1, 1, 0, 44, 1, 0, 0, 0, 0, 0, 0, 0, 1, 0, 0, 0, 0, 100, 0, 0, 0, 3, 0, 0, 0]⟩ := by decide +kernel
theorem zero_dec : inoDec (zerosB 64) = true ∧ inoP (zerosB 64) = Ino.zero := by
  rw [← zero_bytes]
  exact ⟨inoDec_bytes zero_ok, inoP_bytes zero_ok⟩

theorem entAt_one (w : World) (x y z : Int) (T : TypeId) : EntS (w.alloc (.cells #[.int .i64 x, .int .i64 y, .int .i64 z] T)) (some ⟨w.heap.size, 0, none⟩) [(x, y, z)] := by
  have := rowAt_alloc w #[.int .i64 x, .int .i64 y, .int .i64 z] T
  exact .inr ⟨_, 0, rfl, entAt_row this⟩
theorem entAt_two (w : World) (x y z x' y' z' : Int) (T : TypeId) : EntS (w.alloc (.cells #[.int .i64 x, .int .i64 y, .int .i64 z, .int .i64 x', .int .i64 y', .int .i64 z'] T)) (some ⟨w.heap.size, 0, none⟩) [(x, y, z), (x', y', z')] := by
  have := rowAt_alloc w #[.int .i64 x, .int .i64 y, .int .i64 z, .int .i64 x', .int .i64 y', .int .i64 z'] T
  exact .inr ⟨_, 0, rfl, entAt_row this⟩

theorem EntS.alloc {w : World} {a : Option Addr} {es : List (Int × Int × Int)} (h : EntS w a es) (o : Obj) : EntS (w.alloc o) a es := h.below ((Below.refl _ _).alloc (Nat.le_refl _) o) (Nat.le_refl _)

set_option maxHeartbeats 4000000 in
theorem alive11 (w : World) : Calls Try.prog 22 #[] w fun e w' => e = .returned (.bool true) ∧ Below w.heap.size w w' := by
  obtain ⟨m1, m2⟩ := exI_bytes
  obtain ⟨Q, hQ⟩ : ∃ Q, Q = tx exI.bytes := ⟨_, rfl⟩
  rw [← hQ] at m1 m2
  have HC1 : Hid (∀ a cap W, EntS W a [(0, 100, 3)] → Calls Try.prog 17 #[iv 1 true 1 300 0 a 1 cap] W fun e w' => e = .returned (.tuple #[.string Q, .int .i64 0]) ∧ Below W.heap.size W w') := by
    intro a cap W hE
    rw [hQ]
    exact ienc_yes exI a cap W hE exI_ok
  have HC2 : Hid (∀ W, Calls Try.prog 23 #[.string Q] W (fun e w' => ∃ a cap, e = .returned (.tuple #[iv 1 true 1 300 0 a 1 cap, .int .i64 0]) ∧ NewE w' W.heap.size a [(0, 100, 3)] ∧ Below W.heap.size W w')) := by
    intro W
    rw [hQ]
    have := idec_yes (tx exI.bytes) W (inoDec_bytes exI_ok)
    rw [inoP_bytes exI_ok] at this
    exact this
  have HC3 : Hid (∀ W, Calls Try.prog 23 #[.string (zerosB 64)] W (fun e w' => ∃ a cap, e = .returned (.tuple #[iv 0 false 0 0 0 a 0 cap, .int .i64 0]) ∧ NewE w' W.heap.size a [] ∧ Below W.heap.size W w')) := by
    intro W
    have := idec_yes (zerosB 64) W zero_dec.1
    rw [zero_dec.2] at this
    exact this
  have HS1 : Hid (∀ a b c1 c2 W, EntS W a [(0, 100, 3)] → EntS W b [(0, 100, 3)] → Calls Try.prog 21 #[iv 1 true 1 300 0 a 1 c1, iv 1 true 1 300 0 b 1 c2] W fun e w' => e = .returned (.bool true) ∧ Below W.heap.size W w') := by
    intro a b c1 c2 W hE hF
    have := same11_any exI exI c1 c2 W (by decide) (by decide) hE hF
    rw [sameI_refl] at this
    exact this
  have HS2 : Hid (∀ a b c1 c2 W, Calls Try.prog 21 #[iv 0 false 0 0 0 a 0 c1, iv 0 false 0 0 0 b 0 c2] W fun e w' => e = .returned (.bool true) ∧ Below W.heap.size W w') := by
    intro a b c1 c2 W
    have := same11_any Ino.zero Ino.zero (a := a) (b := b) c1 c2 W (by decide) (by decide) (.inl rfl) (.inl rfl)
    rw [sameI_refl] at this
    exact this
  have HK : Hid (∀ a cap W, EntS W a [(0, 100, 2), (1, 200, 1)] → Calls Try.prog 19 #[iv 2 false 0 0 0 a 2 cap] W fun e w' => e = .returned (.bool false) ∧ Below W.heap.size W w') := by
    intro a cap W hE
    have := icheck_any exB a cap W (by decide) hE
    rw [exB_ok] at this
    exact this
  clear hQ
  obtain ⟨i0, hi, hz0, hz1, hz2⟩ := info_parts info_u8b
  have HI := Lib.hid (And.intro hi (And.intro hz0 (And.intro hz1 hz2)))
  clear hi hz0 hz1 hz2
  have B0 : Below w.heap.size w ((w.alloc (.cells #[.int .i64 0, .int .i64 100, .int .i64 3] 26)).alloc (.cells #[.int .i64 1, .bool true, .int .i64 1, .int .i64 300, .int .i64 0, .slice (some ⟨w.heap.size, 0, none⟩) 1 1] 24)) := ((Below.refl _ _).alloc (Nat.le_refl _) _).alloc (by simp) _
  have hE0 := (entAt_one w 0 100 3 26).alloc (.cells #[.int .i64 1, .bool true, .int .i64 1, .int .i64 300, .int .i64 0, .slice (some ⟨w.heap.size, 0, none⟩) 1 1] 24)
  have r0 := rowAt_alloc (w.alloc (.cells #[.int .i64 0, .int .i64 100, .int .i64 3] 26)) #[.int .i64 1, .bool true, .int .i64 1, .int .i64 300, .int .i64 0, .slice (some ⟨w.heap.size, 0, none⟩) 1 1] 24
  rw [World.size_alloc] at r0
  go_enter Try.func22, Try.ntmps22
  go_wp2_with fail
  refine (HC1.out _ _ _ hE0).mono ?_
  rintro e w1 ⟨rfl, hb1⟩
  have B1 := below_chain B0 hb1 B0.size
  have hE1 := hE0.below hb1 (Nat.le_refl _)
  have r1 := r0.below hb1 r0.lt
  clear hE0 r0 B0 hb1
  go_wp2_with fail
  refine (HC2.out _).mono ?_
  rintro e w2 ⟨a2, cap2, rfl, hn2, hb2⟩
  have B2 := below_chain B1 hb2 B1.size
  have hE2 := hE1.below hb2 (Nat.le_refl _)
  have r2 := r1.below hb2 r1.lt
  clear hE1 r1 B1 hb2
  have B2a := B2.alloc B2.size (.cells #[.int .i64 1, .bool true, .int .i64 1, .int .i64 300, .int .i64 0, .slice a2 1 cap2] 24)
  have r2a := r2.alloc (.cells #[.int .i64 1, .bool true, .int .i64 1, .int .i64 300, .int .i64 0, .slice a2 1 cap2] 24)
  have y2a := rowAt_alloc w2 #[.int .i64 1, .bool true, .int .i64 1, .int .i64 300, .int .i64 0, .slice a2 1 cap2] 24
  have hE2a := hE2.alloc (.cells #[.int .i64 1, .bool true, .int .i64 1, .int .i64 300, .int .i64 0, .slice a2 1 cap2] 24)
  have hF2a := hn2.ents.alloc (.cells #[.int .i64 1, .bool true, .int .i64 1, .int .i64 300, .int .i64 0, .slice a2 1 cap2] 24)
  obtain ⟨W3, hmk, hbm, hrm⟩ := make_bytes (P := Try.prog) (w2.alloc (.cells #[.int .i64 1, .bool true, .int .i64 1, .int .i64 300, .int .i64 0, .slice a2 1 cap2] 24)) 39 5 i0 Try.underlying39 HI.out.1 HI.out.2.1 HI.out.2.2.1 HI.out.2.2.2 64 (by decide)
  have B3 := below_chain B2a hbm B2a.size
  have r3 := r2a.below hbm r2a.lt
  have y3 := y2a.below hbm y2a.lt
  have hE3 := hE2a.below hbm (Nat.le_refl _)
  have hF3 := hF2a.below hbm (Nat.le_refl _)
  clear hbm r2a y2a hE2a hF2a B2a hE2 r2 B2 hn2
  simp only [World.size_alloc] at hmk hrm
  have hmk' : (Instr.makeSlice 39 (.int .i64 64) (.int .i64 64)).run Try.prog (w2.alloc (.cells #[.int .i64 1, .bool true, .int .i64 1, .int .i64 300, .int .i64 0, .slice a2 1 cap2] 24)) = .ok (.slice (some ⟨w2.heap.size + 1, 0, none⟩) 64 64) W3 := hmk
  have hback : (convert 39 9 (.slice (some ⟨w2.heap.size + 1, 0, none⟩) 64 64)).run Try.prog W3 = .ok (.string (zerosB 64)) W3 := conv_string (P := Try.prog) W3 39 9 5 (w2.heap.size + 1) 64 64 _ Try.underlying39 Try.underlying5 Try.underlying9 hrm (by simp)
  clear hmk hrm
  go_wp2_with fail
  refine (HC3.out _).mono ?_
  rintro e w4 ⟨a4, cap4, rfl, hn4, hb4⟩
  have B4 := below_chain B3 hb4 B3.size
  have r4 := r3.below hb4 r3.lt
  have y4 := y3.below hb4 y3.lt
  have hE4 := hE3.below hb4 (Nat.le_refl _)
  have hF4 := hF3.below hb4 (Nat.le_refl _)
  clear hb4 B3 r3 y3 hE3 hF3 hmk' hback hn4
  have B5 := B4.alloc B4.size (.cells #[.int .i64 0, .bool false, .int .i64 0, .int .i64 0, .int .i64 0, .slice a4 0 cap4] 24)
  have r5 := r4.alloc (.cells #[.int .i64 0, .bool false, .int .i64 0, .int .i64 0, .int .i64 0, .slice a4 0 cap4] 24)
  have y5 := y4.alloc (.cells #[.int .i64 0, .bool false, .int .i64 0, .int .i64 0, .int .i64 0, .slice a4 0 cap4] 24)
  have z5 := rowAt_alloc w4 #[.int .i64 0, .bool false, .int .i64 0, .int .i64 0, .int .i64 0, .slice a4 0 cap4] 24
  have hE5 := hE4.alloc (.cells #[.int .i64 0, .bool false, .int .i64 0, .int .i64 0, .int .i64 0, .slice a4 0 cap4] 24)
  have hF5 := hF4.alloc (.cells #[.int .i64 0, .bool false, .int .i64 0, .int .i64 0, .int .i64 0, .slice a4 0 cap4] 24)
  obtain ⟨c0, c1, c2, c3, c4, c5⟩ := six_cells r4
  obtain ⟨d0, d1, d2, d3, d4, d5⟩ := six_cells y4
  have l1 := r4.lt
  have l2 := y4.lt
  go_wp2_with fail
  refine (HS1.out _ _ _ _ _ hE5 hF5).mono ?_
  rintro e w6 ⟨rfl, hb6⟩
  clear c0 c1 c2 c3 c4 c5 d0 d1 d2 d3 d4 d5 l1 l2
  have B6 := below_chain B5 hb6 B5.size
  have z6 := z5.below hb6 z5.lt
  clear hb6 B5 r5 y5 z5 hE5 hF5 hE4 hF4 B4 r4 y4
  obtain ⟨c0, c1, c2, c3, c4, c5⟩ := six_cells z6
  have l1 := z6.lt
  go_wp2_with fail
  refine (HS2.out _ _ _ _ _).mono ?_
  rintro e w7 ⟨rfl, hb7⟩
  have B7 := below_chain B6 hb7 B6.size
  clear c0 c1 c2 c3 c4 c5 l1 B6 hb7 z6
  go_wp2_with fail
  have hE8 := entAt_two w7 0 100 2 1 200 1 26
  refine (HK.out _ _ _ hE8).mono ?_
  rintro e w8 ⟨rfl, hb8⟩
  have B8 := below_chain (B7.alloc B7.size _) hb8 (B7.alloc B7.size _).size
  go_wp2_with fail
  go_ret
  exact ⟨rfl, B8⟩

end Go.Proofs.Ytdeemaafngehoaa
