/- The walk of glissadelaw11.InodesEncode where the entries are none. -/
import Derived.Test.YtdeemaafngehoaaInoRef3
import Derived.Test.YtdeemaafngehoaaInoAlive
import Derived.Test.YtdeemaafngehoaaGotIno2
import Derived.Deep.RegionHeld3
import Derived.IntWalk
import Derived.Test.YtdeemaafngehoaaInoEncG
set_option linter.unusedVariables false
set_option linter.unusedSimpArgs false
set_option maxRecDepth 100000
namespace Go.Proofs.Ytdeemaafngehoaa
open Go.RowKit Go.Joins

set_option maxHeartbeats 4000000 in
theorem inoEnc_none (w : World) (k : Int) (p : Bool) (l sz d : Int) (Q : ByteArray) (e0 : Int) (ok : Bool)
    (HE : Hid (∀ W a' cap', EntS W a' [] → Calls Try.prog 17 #[iv k p l sz d a' 0 cap'] W fun e w' => e = .returned (.tuple #[.string Q, .int .i64 e0]) ∧ Below W.heap.size W w'))
    (HR : Hid (∀ W a' cap', EntS W a' [] → Calls Try.prog 18 #[iv k p l sz d a' 0 cap'] W fun e w' => e = .returned (.tuple #[.string Q, .int .i64 e0]) ∧ Below W.heap.size W w'))
    (HK : Hid (∀ W a' cap', EntS W a' [] → Calls Try.prog 19 #[iv k p l sz d a' 0 cap'] W fun e w' => e = .returned (.bool ok) ∧ Below W.heap.size W w'))
    (HRK : Hid (∀ W a' cap', EntS W a' [] → Calls Try.prog 20 #[iv k p l sz d a' 0 cap'] W fun e w' => e = .returned (.bool ok) ∧ Below W.heap.size W w'))
    (HS : Hid (∀ W a' b c1 c2, EntS W a' [] → EntS W b [] → Calls Try.prog 21 #[iv k p l sz d a' 0 c1, iv k p l sz d b 0 c2] W fun e w' => e = .returned (.bool true) ∧ Below W.heap.size W w')) :
    Calls Try.prog 3 #[iv k p l sz d none 0 0] w fun e w' => e = .returned (.bool true) ∧ Below w.heap.size w w' := by
  have HA := Lib.hid alive11
  have x0 := (rowAt_alloc w #[.int .i64 k, .bool p, .int .i64 l, .int .i64 sz, .int .i64 d, .slice none 0 0] 24).alloc (.cells #[.int .i64 k, .bool p, .int .i64 l, .int .i64 sz, .int .i64 d, .slice none 0 0] 24)
  have z0 := rowAt_alloc (w.alloc (.cells #[.int .i64 k, .bool p, .int .i64 l, .int .i64 sz, .int .i64 d, .slice none 0 0] 24)) #[.int .i64 k, .bool p, .int .i64 l, .int .i64 sz, .int .i64 d, .slice none 0 0] 24
  have BB0 : Below w.heap.size w ((w.alloc (.cells #[.int .i64 k, .bool p, .int .i64 l, .int .i64 sz, .int .i64 d, .slice none 0 0] 24)).alloc (.cells #[.int .i64 k, .bool p, .int .i64 l, .int .i64 sz, .int .i64 d, .slice none 0 0] 24)) := ((Below.refl _ _).alloc (Nat.le_refl _) _).alloc (by simp) _
  have hzz : True := trivial
  rw [World.size_alloc] at z0
  have hwr : IntKind.i64.wrap 2 = 2 := by decide
  obtain ⟨i0, hi, hz0, hz1, hz2⟩ := info_parts info_ent
  have HI := Lib.hid (And.intro hi (And.intro hz0 (And.intro hz1 hz2)))
  clear hi hz0 hz1 hz2
  obtain ⟨MC, hMC0⟩ : ∃ MC, MC = madeCells (Value.agg #[.int .i64 0, .int .i64 0, .int .i64 0]).cells ((2) * i0.size) := ⟨_, rfl⟩
  have hMC : MC.size = (2) * 3 := by
    have := size_madeCells (Value.agg #[.int .i64 0, .int .i64 0, .int .i64 0]).cells ((2) * i0.size)
    rw [← hMC0, HI.out.2.2.1] at this
    exact this
  have hmk : ∀ W : World, (Instr.makeSlice 22 (.int .i64 0) (.int .i64 2)).run Try.prog W = .ok (.slice (some ⟨W.heap.size, 0, none⟩) 0 (2)) (W.alloc (.cells MC 26)) := by
    intro W
    have := run_makeSlice (w := W) (P := Try.prog) 22 26 i0 _ Try.underlying22 HI.out.1 HI.out.2.1 .i64 .i64 0 2 (by omega) (by omega) (by rw [HI.out.2.2.1]; omega) (by rw [HI.out.2.2.2]; omega) (by omega)
    rw [show (2 : Int).toNat = 2 from (by omega), ← hMC0] at this
    exact this
  have HMC := Lib.hid hMC
  clear hMC hMC0
  go_enter Try.func3, Try.ntmps3
  go_wp2_with fail
  generalize (w.alloc (.cells #[.int .i64 k, .bool p, .int .i64 l, .int .i64 sz, .int .i64 d, .slice none 0 0] 24)).alloc (.cells #[.int .i64 k, .bool p, .int .i64 l, .int .i64 sz, .int .i64 d, .slice none 0 0] 24) = W0 at *
  have c5 : W0.cell? ⟨w.heap.size, 5, none⟩ = some (.slice none 0 0) := x0.cell 5 (by simp)
  have lx := x0.lt
  have lz := z0.lt
  have fz5 := z0.frozen 5 (by simp)
  have z5 : W0.cell? ⟨w.heap.size + 1, 5, none⟩ = some (.slice none 0 0) := z0.cell 5 (by simp)
  have hMC := HMC.out
  go_region_held3 (fun w' => w'.cell? ⟨w.heap.size, 5, none⟩ = some (.slice none 0 0)) (first | go_keep | exact C6a | exact (X6.other ⟨w.heap.size + 1, 5, none⟩ _ (by simp)).cell 5 (by simp)) (first | (refine step_append_none rfl (.tmp 18) (.tmp 20) 22 rfl W0.heap.size 26 i0 3 Try.underlying22 HI.out.1 (.slice (some ⟨W0.heap.size, 0, none⟩) 0 (0 + 2)) 0 [] (by simp [Act.eval, Act.put]) (by exact (show World.ownsRow (W0.drew.alloc (.cells MC 26)) W0.heap.size 26 3 (.slice (some ⟨W0.heap.size, 0, none⟩) 0 (0 + 2)) 0 [] from (World.ownsRow_made (base := W0.heap.size) (e := 26) (size := 3) W0.drew MC (0 + 2) (by simp) (by unfold maxLen; omega) hMC))) (by simp [Act.eval, Act.put]) ?_) | (refine step_append_none rfl (.tmp 18) (.tmp 20) 22 rfl W0.heap.size 26 i0 3 Try.underlying22 HI.out.1 (.slice (some ⟨W0.heap.size, 0, none⟩) 0 (0 + 2)) 0 [] (by simp [Act.eval, Act.put]) (by exact (show World.ownsRow ((W0.drew.alloc (.cells MC 26)).alloc (.cells #[.int .i64 0, .int .i64 0, .int .i64 (-70), .int .i64 0, .int .i64 0, .int .i64 (-71)] 26)) W0.heap.size 26 3 (.slice (some ⟨W0.heap.size, 0, none⟩) 0 (0 + 2)) 0 [] from World.ownsRow.alloc (World.ownsRow_made (base := W0.heap.size) (e := 26) (size := 3) W0.drew MC (0 + 2) (by simp) (by unfold maxLen; omega) hMC) (.cells #[.int .i64 0, .int .i64 0, .int .i64 (-70), .int .i64 0, .int .i64 0, .int .i64 (-71)] 26))) (by simp [Act.eval, Act.put]) ?_) | (refine step_append_none rfl (.tmp 18) (.tmp 20) 22 rfl W0.heap.size 26 i0 3 Try.underlying22 HI.out.1 (.slice (some ⟨W0.heap.size + 1, 0, none⟩) 0 (0 + 2)) 0 [] (by simp [Act.eval, Act.put]) (by exact (show World.ownsRow ((W0.drew.alloc (.cells #[.int .i64 0, .int .i64 0, .int .i64 (-70), .int .i64 0, .int .i64 0, .int .i64 (-71)] 26)).alloc (.cells MC 26)) W0.heap.size 26 3 (.slice (some ⟨W0.heap.size + 1, 0, none⟩) 0 (0 + 2)) 0 [] from (by have := (World.ownsRow_made (base := W0.heap.size) (e := 26) (size := 3) (W0.drew.alloc (.cells #[.int .i64 0, .int .i64 0, .int .i64 (-70), .int .i64 0, .int .i64 0, .int .i64 (-71)] 26)) MC (0 + 2) (by simp) (by unfold maxLen; omega) hMC); rw [World.size_alloc] at this; exact this))) (by simp [Act.eval, Act.put]) ?_) | (refine step_append_own rfl (.tmp 21) (.tmp 24) 22 rfl W0.heap.size 26 i0 (.agg #[.int .i64 0, .int .i64 0, .int .i64 0]) 3 24 Try.underlying22 HI.out.1 HI.out.2.1 HI.out.2.2.1 HI.out.2.2.2 rfl (by decide) (.slice (some ⟨W0.heap.size, 0, none⟩) 0 (0 + 2)) 0 [] (by simp [Act.eval, Act.put]) (by exact (show World.ownsRow ((W0.drew.alloc (.cells MC 26)).alloc (.cells #[.int .i64 0, .int .i64 0, .int .i64 (-70), .int .i64 0, .int .i64 0, .int .i64 (-71)] 26)) W0.heap.size 26 3 (.slice (some ⟨W0.heap.size, 0, none⟩) 0 (0 + 2)) 0 [] from World.ownsRow.alloc (World.ownsRow_made (base := W0.heap.size) (e := 26) (size := 3) W0.drew MC (0 + 2) (by simp) (by unfold maxLen; omega) hMC) (.cells #[.int .i64 0, .int .i64 0, .int .i64 (-70), .int .i64 0, .int .i64 0, .int .i64 (-71)] 26))) ⟨W0.heap.size + 1, 0, none⟩ 2 2 [.int .i64 0, .int .i64 0, .int .i64 (-70), .int .i64 0, .int .i64 0, .int .i64 (-71)] (by simp [Act.eval, Act.put]) rfl (by exact (row_news (show RowAt ((W0.drew.alloc (.cells MC 26)).alloc (.cells #[.int .i64 0, .int .i64 0, .int .i64 (-70), .int .i64 0, .int .i64 0, .int .i64 (-71)] 26)) (W0.heap.size + 1) [.int .i64 0, .int .i64 0, .int .i64 (-70), .int .i64 0, .int .i64 0, .int .i64 (-71)] from (by have := rowAt_alloc (W0.drew.alloc (.cells MC 26)) #[.int .i64 0, .int .i64 0, .int .i64 (-70), .int .i64 0, .int .i64 0, .int .i64 (-71)] 26; rw [World.size_alloc] at this; exact this)))) (by intro u hu; simp at hu; first | (rcases hu with rfl | rfl | rfl | rfl | rfl | rfl <;> rfl) | (subst hu; rfl)) (by unfold maxLen; omega) (by omega) (by simp; try omega) ?_; intro v6 w6 own6 grow6; obtain ⟨g6, cap6, rfl, hg6, hc6, R6⟩ := own_full own6 (by omega); have B6 : Below W0.heap.size W0 w6 := grown_below (((Below.refl W0.heap.size W0).drew.alloc (Nat.le_refl _) (.cells MC 26)).alloc (by simp) (.cells #[.int .i64 0, .int .i64 0, .int .i64 (-70), .int .i64 0, .int .i64 0, .int .i64 (-71)] 26)) grow6 (by intro kk hkk; have := Option.some.inj hkk; simp at this; omega) (by simp; try omega); have X6 := x0.below B6 x0.lt; have Z6 := z0.below B6 z0.lt; have C6a : w6.cell? ⟨w.heap.size, 5, none⟩ = some (.slice none 0 0) := X6.cell 5 (by simp); have L6a := X6.lt; have L6b := Z6.lt; have F6 := Z6.frozen 5 (by simp); have C6e : w6.cell? ⟨w.heap.size + 1, 5, none⟩ = some (.slice none 0 0) := Z6.cell 5 (by simp); have hq1 : (0 : Int) ≤ (cap6 : Int) := (by omega)) | (refine step_append_own rfl (.tmp 21) (.tmp 24) 22 rfl W0.heap.size 26 i0 (.agg #[.int .i64 0, .int .i64 0, .int .i64 0]) 3 24 Try.underlying22 HI.out.1 HI.out.2.1 HI.out.2.2.1 HI.out.2.2.2 rfl (by decide) (.slice (some ⟨W0.heap.size + 1, 0, none⟩) 0 (0 + 2)) 0 [] (by simp [Act.eval, Act.put]) (by exact (show World.ownsRow ((W0.drew.alloc (.cells #[.int .i64 0, .int .i64 0, .int .i64 (-70), .int .i64 0, .int .i64 0, .int .i64 (-71)] 26)).alloc (.cells MC 26)) W0.heap.size 26 3 (.slice (some ⟨W0.heap.size + 1, 0, none⟩) 0 (0 + 2)) 0 [] from (by have := (World.ownsRow_made (base := W0.heap.size) (e := 26) (size := 3) (W0.drew.alloc (.cells #[.int .i64 0, .int .i64 0, .int .i64 (-70), .int .i64 0, .int .i64 0, .int .i64 (-71)] 26)) MC (0 + 2) (by simp) (by unfold maxLen; omega) hMC); rw [World.size_alloc] at this; exact this))) ⟨W0.heap.size, 0, none⟩ 2 2 [.int .i64 0, .int .i64 0, .int .i64 (-70), .int .i64 0, .int .i64 0, .int .i64 (-71)] (by simp [Act.eval, Act.put]) rfl (by exact (row_news (show RowAt ((W0.drew.alloc (.cells #[.int .i64 0, .int .i64 0, .int .i64 (-70), .int .i64 0, .int .i64 0, .int .i64 (-71)] 26)).alloc (.cells MC 26)) W0.heap.size [.int .i64 0, .int .i64 0, .int .i64 (-70), .int .i64 0, .int .i64 0, .int .i64 (-71)] from (rowAt_alloc W0.drew #[.int .i64 0, .int .i64 0, .int .i64 (-70), .int .i64 0, .int .i64 0, .int .i64 (-71)] 26).alloc (.cells MC 26)))) (by intro u hu; simp at hu; first | (rcases hu with rfl | rfl | rfl | rfl | rfl | rfl <;> rfl) | (subst hu; rfl)) (by unfold maxLen; omega) (by omega) (by simp; try omega) ?_; intro v6 w6 own6 grow6; obtain ⟨g6, cap6, rfl, hg6, hc6, R6⟩ := own_full own6 (by omega); have B6 : Below W0.heap.size W0 w6 := grown_below (((Below.refl W0.heap.size W0).drew.alloc (Nat.le_refl _) (.cells #[.int .i64 0, .int .i64 0, .int .i64 (-70), .int .i64 0, .int .i64 0, .int .i64 (-71)] 26)).alloc (by simp) (.cells MC 26)) grow6 (by intro kk hkk; have := Option.some.inj hkk; simp at this; omega) (by simp; try omega); have X6 := x0.below B6 x0.lt; have Z6 := z0.below B6 z0.lt; have C6a : w6.cell? ⟨w.heap.size, 5, none⟩ = some (.slice none 0 0) := X6.cell 5 (by simp); have L6a := X6.lt; have L6b := Z6.lt; have F6 := Z6.frozen 5 (by simp); have C6e : w6.cell? ⟨w.heap.size + 1, 5, none⟩ = some (.slice none 0 0) := Z6.cell 5 (by simp); have hq1 : (0 : Int) ≤ (cap6 : Int) := (by omega)) | fail)
  all_goals
    have R6' : RowAt w6 g6 (ecells [] ++ [.int .i64 0, .int .i64 0, .int .i64 (-70), .int .i64 0, .int .i64 0, .int .i64 (-71)]) := R6
    have BB7 : Below w.heap.size w (w6.setCell ⟨w.heap.size + 1, 5, none⟩ (.slice (some ⟨g6, 0, none⟩) 0 cap6)) := (BB0.trans (below_le B6 BB0.size)).setCell (by simp) _
    have X7 := X6.other ⟨w.heap.size + 1, 5, none⟩ (.slice (some ⟨g6, 0, none⟩) 0 cap6) (by simp)
    have Z7 := Z6.set 5 (.slice (some ⟨g6, 0, none⟩) 0 cap6)
    have R7 := R6'.other ⟨w.heap.size + 1, 5, none⟩ (.slice (some ⟨g6, 0, none⟩) 0 cap6) (by simp; omega)
    have hcap : 2 ≤ cap6 := by omega
    clear own6 grow6 X6 Z6 B6 F6 C6a C6e L6a L6b R6 R6' x0 z0 c5 lx lz fz5 z5 BB0 hmk hMC hc6 hg6
    generalize w6.setCell ⟨w.heap.size + 1, 5, none⟩ (.slice (some ⟨g6, 0, none⟩) 0 cap6) = W7 at *
    have G7 : EncG w W7 g6 [] [.int .i64 k, .bool p, .int .i64 l, .int .i64 sz, .int .i64 d, .slice (some ⟨g6, 0, none⟩) 0 cap6] [.int .i64 k, .bool p, .int .i64 l, .int .i64 sz, .int .i64 d, .slice none 0 0] := ⟨Z7, X7, R7, BB7, BB7.size⟩
    obtain ⟨c0, c1, c2, c3, c4, c5⟩ := six_cells (show RowAt W7 (w.heap.size + 1) [.int .i64 k, .bool p, .int .i64 l, .int .i64 sz, .int .i64 d, .slice (some ⟨g6, 0, none⟩) 0 cap6] from Z7)
    have HEX : Hid (∀ W, Below w.heap.size w W → EntS W none []) := fun W hb => .inl rfl
    clear Z7 X7 R7 BB7
    go_wp2_with fail
    refine (HE.out _ _ _ G7.ents).mono ?_
    rintro e w8 ⟨rfl, hb8⟩
    clear c0 c1 c2 c3 c4 c5
    have G8 := G7.below hb8
    obtain ⟨d0, d1, d2, d3, d4, d5⟩ := six_cells G8.2.1
    go_wp2_with fail
    refine (HR.out _ _ _ (HEX.out _ G8.2.2.2.1)).mono ?_
    rintro e w9 ⟨rfl, hb9⟩
    clear d0 d1 d2 d3 d4 d5
    have G9 := G8.below hb9
    have hq2 : (0 : Int) ≤ 2 := by omega
    have hq3 : (2 : Int) ≤ (cap6 : Int) := by omega
    obtain ⟨c0, c1, c2, c3, c4, c5⟩ := six_cells G9.1
    obtain ⟨d0, d1, d2, d3, d4, d5⟩ := six_cells G9.2.1
    obtain ⟨s70, s71⟩ := G9.tails
    have HT9 := Lib.hid (show EntS w9.drew (some ⟨g6, 0, none⟩) [] from G9.ents)
    have HB9 := Lib.hid (show Below w.heap.size w w9.drew from G9.2.2.2.1.drew)
    have hbb : ∀ q : Bool, (q == q) = true := by intro q; simp
    have hwr1 : IntKind.i64.wrap 1 = 1 := by decide
    go_wp2_with fail
    go_region_held3 (fun w' => w'.cell? ⟨w.heap.size + 1, 0, none⟩ = some (.int .i64 k) ∧ w'.cell? ⟨w.heap.size + 1, 1, none⟩ = some (.bool p) ∧ w'.cell? ⟨w.heap.size + 1, 2, none⟩ = some (.int .i64 l) ∧ w'.cell? ⟨w.heap.size + 1, 3, none⟩ = some (.int .i64 sz) ∧ w'.cell? ⟨w.heap.size + 1, 4, none⟩ = some (.int .i64 d) ∧ w'.cell? ⟨w.heap.size + 1, 5, none⟩ = some (.slice (some ⟨g6, 0, none⟩) 0 cap6) ∧ w'.cell? ⟨w.heap.size, 0, none⟩ = some (.int .i64 k) ∧ w'.cell? ⟨w.heap.size, 1, none⟩ = some (.bool p) ∧ w'.cell? ⟨w.heap.size, 2, none⟩ = some (.int .i64 l) ∧ w'.cell? ⟨w.heap.size, 3, none⟩ = some (.int .i64 sz) ∧ w'.cell? ⟨w.heap.size, 4, none⟩ = some (.int .i64 d) ∧ w'.cell? ⟨w.heap.size, 5, none⟩ = some (.slice none 0 0) ∧ w'.cell? ⟨g6, 2, none⟩ = some (.int .i64 (-70)) ∧ w'.cell? ⟨g6, 3 + 2, none⟩ = some (.int .i64 (-71)) ∧ EncG w w' g6 [] [.int .i64 k, .bool p, .int .i64 l, .int .i64 sz, .int .i64 d, .slice (some ⟨g6, 0, none⟩) 0 cap6] [.int .i64 k, .bool p, .int .i64 l, .int .i64 sz, .int .i64 d, .slice none 0 0]) (first | (exact enc_keep (es := []) ⟨c0, c1, c2, c3, c4, c5, d0, d1, d2, d3, d4, d5, s70, s71, G9⟩ ((Below.refl _ _).drew)) | (exact enc_keep (es := []) (by assumption) (by assumption)))
      (first | (go_at_call 19; refine (HK.out _ _ _ (by first | exact enc_ents (es := []) (by assumption) | exact HT9.out)).mono ?_; rintro e w' ⟨rfl, hb'⟩) | (go_at_call 20; refine (HRK.out _ _ _ (by first | exact HEX.out _ (enc_bel (es := []) (by assumption)) | exact HEX.out _ HB9.out)).mono ?_; rintro e w' ⟨rfl, hb'⟩) | (go_at_call 21; refine (HS.out _ _ _ _ _ (by exact enc_ents (es := []) (by assumption)) (by exact HEX.out _ (enc_bel (es := []) (by assumption)))).mono ?_; rintro e w' ⟨rfl, hb'⟩) | (go_at_call 22; refine (HA.out _).mono ?_; rintro e w' ⟨rfl, hb'⟩))
    have G10 := enc_end (es := []) (W := w') (by assumption)
    go_wp2_with fail
    go_ret
    exact ⟨rfl, G10.2.2.2.1⟩

end Go.Proofs.Ytdeemaafngehoaa
