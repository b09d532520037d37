/- Walks: the document's answer: an inode encoded. -/
import Derived.Test.YtdeemaafngehoaaInoRef
import Derived.Test.YtdeemaafngehoaaInoRef2
set_option linter.unusedVariables false
set_option linter.unusedSimpArgs false
set_option maxRecDepth 100000
namespace Go.Proofs.Ytdeemaafngehoaa
open Go.RowKit Go.Joins

theorem six_keep {w0 W W' : World} {K B : Nat} {v0 v1 v2 v3 v4 v5 : Value} (h : W.cell? ⟨K, 0, none⟩ = some v0 ∧ W.cell? ⟨K, 1, none⟩ = some v1 ∧ W.cell? ⟨K, 2, none⟩ = some v2 ∧ W.cell? ⟨K, 3, none⟩ = some v3 ∧ W.cell? ⟨K, 4, none⟩ = some v4 ∧ W.cell? ⟨K, 5, none⟩ = some v5 ∧ RowAt W K [v0, v1, v2, v3, v4, v5] ∧ Below B w0 W ∧ B ≤ W.heap.size) (hb : Below W.heap.size W W') : W'.cell? ⟨K, 0, none⟩ = some v0 ∧ W'.cell? ⟨K, 1, none⟩ = some v1 ∧ W'.cell? ⟨K, 2, none⟩ = some v2 ∧ W'.cell? ⟨K, 3, none⟩ = some v3 ∧ W'.cell? ⟨K, 4, none⟩ = some v4 ∧ W'.cell? ⟨K, 5, none⟩ = some v5 ∧ RowAt W' K [v0, v1, v2, v3, v4, v5] ∧ Below B w0 W' ∧ B ≤ W'.heap.size := by
  obtain ⟨_, _, _, _, _, _, hr, hB, hs⟩ := h
  have hr' := hr.below hb hr.lt
  obtain ⟨c0, c1, c2, c3, c4, c5⟩ := six_cells hr'
  exact ⟨c0, c1, c2, c3, c4, c5, hr', below_chain hB hb hs, Nat.le_trans hs hb.size⟩
theorem six_ends {w0 W : World} {K B : Nat} {v0 v1 v2 v3 v4 v5 : Value} (h : W.cell? ⟨K, 0, none⟩ = some v0 ∧ W.cell? ⟨K, 1, none⟩ = some v1 ∧ W.cell? ⟨K, 2, none⟩ = some v2 ∧ W.cell? ⟨K, 3, none⟩ = some v3 ∧ W.cell? ⟨K, 4, none⟩ = some v4 ∧ W.cell? ⟨K, 5, none⟩ = some v5 ∧ RowAt W K [v0, v1, v2, v3, v4, v5] ∧ Below B w0 W ∧ B ≤ W.heap.size) : RowAt W K [v0, v1, v2, v3, v4, v5] ∧ Below B w0 W := by
  obtain ⟨_, _, _, _, _, _, hr, hB, hs⟩ := h
  exact ⟨hr, hB⟩

set_option maxHeartbeats 4000000 in
theorem renc_core (w : World) (k : Int) (p : Bool) (l s d : Int) (a : Option Addr) (n cap : Nat) (pin : Int) (hp : p = true ∧ pin = 1 ∨ p = false ∧ pin = 0) (P1 P2 P3 P4 P5 P6 P7 P8 : ByteArray) (m : Nat) (hm : P7.size + m = 64) (hn : n ≤ 1000)
    (HK : Hid (∀ W, Below w.heap.size w W → Calls Try.prog 20 #[iv k p l s d a n cap] W fun e w' => e = .returned (.bool true) ∧ Below W.heap.size W w'))
    (HC0 : Hid (∀ W, Calls Try.prog 45 #[.string ⟨#[]⟩, .int .i64 1, .int .i64 k] W fun e w' => e = .returned (.string P1) ∧ Below W.heap.size W w'))
    (HC1 : Hid (∀ W, Calls Try.prog 45 #[.string P1, .int .i64 1, .int .i64 pin] W fun e w' => e = .returned (.string P2) ∧ Below W.heap.size W w'))
    (HC2 : Hid (∀ W, Calls Try.prog 45 #[.string P2, .int .i64 2, .int .i64 l] W fun e w' => e = .returned (.string P3) ∧ Below W.heap.size W w'))
    (HC3 : Hid (∀ W, Calls Try.prog 45 #[.string P3, .int .i64 8, .int .i64 s] W fun e w' => e = .returned (.string P4) ∧ Below W.heap.size W w'))
    (HC4 : Hid (∀ W, Calls Try.prog 45 #[.string P4, .int .i64 1, .int .i64 d] W fun e w' => e = .returned (.string P5) ∧ Below W.heap.size W w'))
    (HC5 : Hid (∀ W, Calls Try.prog 45 #[.string P5, .int .i64 1, .int .i64 (n : Int)] W fun e w' => e = .returned (.string P6) ∧ Below W.heap.size W w'))
    (HE : Hid (∀ W, Below w.heap.size w W → Calls Try.prog 46 #[.string P6, .slice a n cap] W fun e w' => e = .returned (.string P7) ∧ Below W.heap.size W w'))
    (H8 : Hid (P7 ++ zerosB m = P8)) :
    Calls Try.prog 18 #[iv k p l s d a n cap] w fun e w' => e = .returned (.tuple #[.string P8, .int .i64 0]) ∧ Below w.heap.size w w' := by
  obtain ⟨i0, hi, hz0, hz1, hz2⟩ := info_parts info_u8
  have HI := Lib.hid (And.intro hi (And.intro hz0 (And.intro hz1 hz2)))
  clear hi hz0 hz1 hz2
  have hB0 : Below w.heap.size w (w.alloc (.cells #[.int .i64 k, .bool p, .int .i64 l, .int .i64 s, .int .i64 d, .slice a n cap] 24)) := (Below.refl w.heap.size w).alloc (Nat.le_refl _) _
  have hr0 := rowAt_alloc w #[.int .i64 k, .bool p, .int .i64 l, .int .i64 s, .int .i64 d, .slice a n cap] 24
  have hnn : (n : Int) ≤ 1000 := by omega
  rcases hp with ⟨rfl, rfl⟩ | ⟨rfl, rfl⟩
  all_goals
    go_enter Try.func18, Try.ntmps18
    go_wp2_with fail
    refine (HK.out _ hB0).mono ?_
    rintro e w1 ⟨rfl, hb1⟩
    have B1 := below_chain hB0 hb1 hB0.size
    have hr1 := hr0.below hb1 hr0.lt
    clear hr0 hb1
    obtain ⟨c0, c1, c2, c3, c4, c5⟩ := six_cells hr1
    have hl1 := hr1.lt
    have B1s : w.heap.size ≤ w1.heap.size := B1.size
    go_wp2_with fail
  · go_region_held3 (fun w' => w'.cell? ⟨w.heap.size, 0, none⟩ = some (.int .i64 k) ∧ w'.cell? ⟨w.heap.size, 1, none⟩ = some (.bool true) ∧ w'.cell? ⟨w.heap.size, 2, none⟩ = some (.int .i64 l) ∧ w'.cell? ⟨w.heap.size, 3, none⟩ = some (.int .i64 s) ∧ w'.cell? ⟨w.heap.size, 4, none⟩ = some (.int .i64 d) ∧ w'.cell? ⟨w.heap.size, 5, none⟩ = some (.slice a n cap) ∧ RowAt w' w.heap.size [.int .i64 k, .bool true, .int .i64 l, .int .i64 s, .int .i64 d, .slice a n cap] ∧ Below w.heap.size w w' ∧ w.heap.size ≤ w'.heap.size) (first | (exact six_keep ⟨c0, c1, c2, c3, c4, c5, hr1, B1, B1s⟩ ((Below.refl _ _).drew)) | (exact six_keep (by assumption) (by assumption)))
      (first | (go_at_call_of 45 (P1); refine (HC1.out _).mono ?_; rintro e w' ⟨rfl, hb'⟩) | (go_at_call_of 45 (P2); refine (HC2.out _).mono ?_; rintro e w' ⟨rfl, hb'⟩) | (go_at_call_of 45 (P3); refine (HC3.out _).mono ?_; rintro e w' ⟨rfl, hb'⟩) | (go_at_call_of 45 (P4); refine (HC4.out _).mono ?_; rintro e w' ⟨rfl, hb'⟩) | (go_at_call_of 45 (P5); refine (HC5.out _).mono ?_; rintro e w' ⟨rfl, hb'⟩) | (go_at_call 45; refine (HC0.out _).mono ?_; rintro e w' ⟨rfl, hb'⟩))
    obtain ⟨hr2, B2⟩ := six_ends (W := w') (by assumption)
    clear c0 c1 c2 c3 c4 c5
    obtain ⟨c0, c1, c2, c3, c4, c5⟩ := six_cells hr2
    have hl2 := hr2.lt
    go_wp2_with fail
    refine (HE.out _ B2).mono ?_
    rintro e w3 ⟨rfl, hb3⟩
    have B3 := below_chain B2 hb3 B2.size
    clear c0 c1 c2 c3 c4 c5
    have hmi : (64 : Int) - (P7.size : Int) = (m : Int) := by omega
    have z1 := zerosB_size m
    have z3 : ¬ 9223372036854775807 < P7.size + m := by omega
    obtain ⟨W4, hmk, hbm, hrm⟩ := make_bytes (P := Try.prog) w3 39 5 i0 Try.underlying39 HI.out.1 HI.out.2.1 HI.out.2.2.1 HI.out.2.2.2 m (by omega)
    have hback : (convert 39 9 (.slice (some ⟨w3.heap.size, 0, none⟩) m m)).run Try.prog W4 = .ok (.string (zerosB m)) W4 := conv_string (P := Try.prog) W4 39 9 5 w3.heap.size m m _ Try.underlying39 Try.underlying5 Try.underlying9 hrm (by simp)
    have B4 := below_chain B3 hbm B3.size
    clear hrm hbm
    go_wp2_with fail
    go_ret2
    rw [H8.out]
    exact ⟨rfl, B4⟩
  · go_region_held3 (fun w' => w'.cell? ⟨w.heap.size, 0, none⟩ = some (.int .i64 k) ∧ w'.cell? ⟨w.heap.size, 1, none⟩ = some (.bool false) ∧ w'.cell? ⟨w.heap.size, 2, none⟩ = some (.int .i64 l) ∧ w'.cell? ⟨w.heap.size, 3, none⟩ = some (.int .i64 s) ∧ w'.cell? ⟨w.heap.size, 4, none⟩ = some (.int .i64 d) ∧ w'.cell? ⟨w.heap.size, 5, none⟩ = some (.slice a n cap) ∧ RowAt w' w.heap.size [.int .i64 k, .bool false, .int .i64 l, .int .i64 s, .int .i64 d, .slice a n cap] ∧ Below w.heap.size w w' ∧ w.heap.size ≤ w'.heap.size) (first | (exact six_keep ⟨c0, c1, c2, c3, c4, c5, hr1, B1, B1s⟩ ((Below.refl _ _).drew)) | (exact six_keep (by assumption) (by assumption)))
      (first | (go_at_call_of 45 (P1); refine (HC1.out _).mono ?_; rintro e w' ⟨rfl, hb'⟩) | (go_at_call_of 45 (P2); refine (HC2.out _).mono ?_; rintro e w' ⟨rfl, hb'⟩) | (go_at_call_of 45 (P3); refine (HC3.out _).mono ?_; rintro e w' ⟨rfl, hb'⟩) | (go_at_call_of 45 (P4); refine (HC4.out _).mono ?_; rintro e w' ⟨rfl, hb'⟩) | (go_at_call_of 45 (P5); refine (HC5.out _).mono ?_; rintro e w' ⟨rfl, hb'⟩) | (go_at_call 45; refine (HC0.out _).mono ?_; rintro e w' ⟨rfl, hb'⟩))
    obtain ⟨hr2, B2⟩ := six_ends (W := w') (by assumption)
    clear c0 c1 c2 c3 c4 c5
    obtain ⟨c0, c1, c2, c3, c4, c5⟩ := six_cells hr2
    have hl2 := hr2.lt
    go_wp2_with fail
    refine (HE.out _ B2).mono ?_
    rintro e w3 ⟨rfl, hb3⟩
    have B3 := below_chain B2 hb3 B2.size
    clear c0 c1 c2 c3 c4 c5
    have hmi : (64 : Int) - (P7.size : Int) = (m : Int) := by omega
    have z1 := zerosB_size m
    have z3 : ¬ 9223372036854775807 < P7.size + m := by omega
    obtain ⟨W4, hmk, hbm, hrm⟩ := make_bytes (P := Try.prog) w3 39 5 i0 Try.underlying39 HI.out.1 HI.out.2.1 HI.out.2.2.1 HI.out.2.2.2 m (by omega)
    have hback : (convert 39 9 (.slice (some ⟨w3.heap.size, 0, none⟩) m m)).run Try.prog W4 = .ok (.string (zerosB m)) W4 := conv_string (P := Try.prog) W4 39 9 5 w3.heap.size m m _ Try.underlying39 Try.underlying5 Try.underlying9 hrm (by simp)
    have B4 := below_chain B3 hbm B3.size
    clear hrm hbm
    go_wp2_with fail
    go_ret2
    rw [H8.out]
    exact ⟨rfl, B4⟩

theorem fld_put {x : Ino} (h : x.ok = true) (j : Nat) (hj : j < 6) (m v : Int) (hm : m = ([1, 1, 2, 8, 1, 1][j]'(by simpa using hj))) (hv : v = (x.hdF[j]'(by simpa [Ino.hdF] using hj)).2) (W : World) :
    Calls Try.prog 45 #[.string (tx (fldB (x.hdF.take j))), .int .i64 m, .int .i64 v] W fun e w' => e = .returned (.string (tx (fldB (x.hdF.take (j + 1))))) ∧ Below W.heap.size W w' := by
  have hj' : j < x.hdF.length := by simpa [Ino.hdF] using hj
  obtain ⟨a, b, c, d⟩ := Ino.hdF_small h (x.hdF[j]) (List.getElem_mem hj')
  have hw : (((x.hdF[j]).1 : Nat) : Int) = [1, 1, 2, 8, 1, 1][j]'(by simpa using hj) := by
    obtain rfl | rfl | rfl | rfl | rfl | rfl : j = 0 ∨ j = 1 ∨ j = 2 ∨ j = 3 ∨ j = 4 ∨ j = 5 := by omega
    all_goals simp [Ino.hdF]
  have hs : (tx (fldB (x.hdF.take j))).size ≤ 1000000 := by
    rw [tx_size, fldB_len]
    obtain rfl | rfl | rfl | rfl | rfl | rfl : j = 0 ∨ j = 1 ∨ j = 2 ∨ j = 3 ∨ j = 4 ∨ j = 5 := by omega
    all_goals simp [Ino.hdF]
  have := rput_at (tx (fldB (x.hdF.take j))) m v W (x.hdF[j]).1 (by rw [hm, hw]) hs a (by rw [hv]; exact b) (by rw [hv]; exact c) (by rw [hv]; omega)
  rw [tx_app] at this
  have e2 : fldB (x.hdF.take (j + 1)) = fldB (x.hdF.take j) ++ leBytes (x.hdF[j]).1 (x.hdF[j]).2.toNat := by
    rw [List.take_succ_eq_append_getElem hj', fldB_append]
    simp [fldB]
  rw [e2]
  rw [hv] at this
  rw [hv]
  exact this

theorem irenc_yes (x : Ino) (a : Option Addr) (cap : Nat) (w : World) (hE : EntS w a x.es) (h : x.ok = true) :
    Calls Try.prog 18 #[inoV x a cap] w fun e w' => e = .returned (.tuple #[.string (tx x.bytes), .int .i64 0]) ∧ Below w.heap.size w w' := by
  have hsm := Ino.ok_small h
  have hn : x.es.length ≤ 4 := hsm.2.2.2.2.2.2.2.2.1
  have hfull : x.hdF.take 6 = x.hdF := List.take_of_length_le (by simp [Ino.hdF])
  refine renc_core w x.k x.p x.l x.s x.d a x.es.length cap (pinI x.p) (by cases x.p <;> simp [pinI]) (tx (fldB (x.hdF.take 1))) (tx (fldB (x.hdF.take 2))) (tx (fldB (x.hdF.take 3))) (tx (fldB (x.hdF.take 4))) (tx (fldB (x.hdF.take 5))) (tx (fldB (x.hdF.take 6))) (tx (x.hd ++ words4 (flE x.es))) (tx x.bytes) (50 - 12 * x.es.length) ?_ (by omega)
    (Lib.hid (fun W hb => by have := rcheck_any x a cap W (by omega) (hE.below hb (Nat.le_refl _)); rw [h] at this; exact this))
    (Lib.hid (fun W => fld_put h 0 (by omega) 1 x.k rfl rfl W)) (Lib.hid (fun W => fld_put h 1 (by omega) 1 (pinI x.p) rfl rfl W)) (Lib.hid (fun W => fld_put h 2 (by omega) 2 x.l rfl rfl W)) (Lib.hid (fun W => fld_put h 3 (by omega) 8 x.s rfl rfl W)) (Lib.hid (fun W => fld_put h 4 (by omega) 1 x.d rfl rfl W)) (Lib.hid (fun W => fld_put h 5 (by omega) 1 (x.es.length : Int) rfl rfl W))
    (Lib.hid (fun W hb => by rw [hfull]; exact rents_any x.hd cap W (hE.below hb (Nat.le_refl _)) (by omega) (by rw [Ino.hd_length]; omega) hsm.2.2.2.2.2.2.2.2.2)) (Lib.hid ?_)
  · rw [tx_size]
    simp [Ino.hd_length, words4_length, flE_length]
    omega
  · show tx _ ++ zerosB _ = _
    rw [zerosB]
    exact tx_app _ _

set_option maxHeartbeats 1000000 in
theorem irenc_no (x : Ino) (a : Option Addr) (cap : Nat) (w : World) (hE : EntS w a x.es) (hn : x.es.length ≤ 100000) (h : x.ok = false) :
    Calls Try.prog 18 #[inoV x a cap] w fun e w' => e = .returned (.tuple #[.string ⟨#[]⟩, .int .i64 2]) ∧ Below w.heap.size w w' := by
  have HC1 := Lib.hid (fun W (hb : Below w.heap.size w W) => by have := rcheck_any x a cap W hn (hE.below hb (Nat.le_refl _)); rw [h] at this; exact this : ∀ W, Below w.heap.size w W → Calls Try.prog 20 #[inoV x a cap] W fun e w' => e = .returned (.bool false) ∧ Below W.heap.size W w')
  have hB0 : Below w.heap.size w (w.alloc (.cells #[.int .i64 x.k, .bool x.p, .int .i64 x.l, .int .i64 x.s, .int .i64 x.d, .slice a x.es.length cap] 24)) := (Below.refl w.heap.size w).alloc (Nat.le_refl _) _
  clear h
  go_enter Try.func18, Try.ntmps18
  go_wp2_with fail
  refine (HC1.out _ hB0).mono ?_
  rintro e w1 ⟨rfl, hb1⟩
  have B1 := below_chain hB0 hb1 hB0.size
  go_wp2_with fail
  go_ret2
  exact ⟨rfl, B1⟩

end Go.Proofs.Ytdeemaafngehoaa
