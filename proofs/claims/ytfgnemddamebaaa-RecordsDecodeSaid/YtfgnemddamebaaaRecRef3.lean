/- Walks: the document's answer: a record encoded. -/
import Derived.Test.YtfgnemddamebaaaRecRef2
import Derived.Test.YtfgnemddamebaaaRecWalks4
import Derived.Deep.RegionHeld3
set_option linter.unusedVariables false
set_option linter.unusedSimpArgs false
set_option maxRecDepth 100000
namespace Go.Proofs.Ytfgnemddamebaaa
open Go.RowKit Go.Joins

theorem info_u8 : (Try.prog.info? 5).map (fun i => (i.zero, i.size, i.bytes)) = some (some (.int .u8 0), 1, 1) := by kernel_rfl

theorem putu_alone (n : Nat) (v : Int) (hn : n = 1 ∨ n = 2 ∨ n = 4 ∨ n = 8) (h0 : 0 ≤ v) (h1 : v.toNat < 256 ^ n) :
    putOk (zerosB n) 0 (n : Nat) v = true ∧ putV (zerosB n) 0 (n : Nat) v = tx (leBytes n v.toNat) := by
  have := put_over (S := List.replicate n 0) (a := 0) (m := (n : Nat)) [] (List.replicate n 0) [] n v (by simp) rfl rfl (by simp) hn h0 h1
  refine ⟨this.2.2.1, this.2.2.2.trans ?_⟩
  simp

set_option maxHeartbeats 1000000 in
theorem r8put_any (s : ByteArray) (n : Nat) (v : Int) (w : World) (hs : s.size ≤ 1000000) (hn : n = 1 ∨ n = 2 ∨ n = 4 ∨ n = 8) (h0 : 0 ≤ v) (h1 : v.toNat < 256 ^ n) :
    Calls Try.prog 32 #[.string s, .int .i64 (n : Int), .int .u64 v] w fun e w' => e = .returned (.string (s ++ tx (leBytes n v.toNat))) ∧ Below w.heap.size w w' := by
  obtain ⟨i0, hi, hz0, hz1, hz2⟩ := info_parts info_u8
  obtain ⟨p1, p2⟩ := putu_alone n v hn h0 h1
  have h2 : v ≤ 18446744073709551615 := by
    have : (256 : Nat) ^ n ≤ 18446744073709551616 := by rcases hn with rfl | rfl | rfl | rfl <;> decide
    omega
  have HC := Lib.hid (fun W => by have := rput_any (zerosB n) 0 (n : Nat) v W (by rw [zerosB_size]; unfold maxLen; omega) h0 h2; rw [p1, p2] at this; exact this : ∀ W, Calls Try.prog 52 #[.string (zerosB n), .int .i64 0, .int .i64 (n : Int), .int .u64 v] W fun e w' => e = .returned (.tuple #[.string (tx (leBytes n v.toNat)), .bool true]) ∧ Below W.heap.size W w')
  obtain ⟨W1, hmk, hbm, hrm⟩ := make_bytes (P := Try.prog) w 62 5 i0 Try.underlying62 hi hz0 hz1 hz2 n (by omega)
  have hback : (convert 62 9 (.slice (some ⟨w.heap.size, 0, none⟩) n n)).run Try.prog W1 = .ok (.string (zerosB n)) W1 := conv_string (P := Try.prog) W1 62 9 5 w.heap.size n n _ Try.underlying62 Try.underlying5 Try.underlying9 hrm (by simp)
  have hnb : n ≤ 8 := by omega
  obtain ⟨T, hT⟩ : ∃ T, T = tx (leBytes n v.toNat) := ⟨_, rfl⟩
  have hTs : T.size ≤ 8 := by rw [hT, tx_size, leBytes_length]; exact hnb
  rw [← hT] at HC ⊢
  have z3 : ¬ 9223372036854775807 < s.size + T.size := by omega
  clear hi hz0 hz1 hz2 p1 p2 hrm hn hT h1
  have hsz := hbm.size
  go_enter Try.func32, Try.ntmps32
  go_wp2_with fail
  refine (HC.out _).mono ?_
  rintro e w4 ⟨rfl, hb4⟩
  have B4 := below_chain hbm hb4 hbm.size
  go_wp2_with fail
  go_ret
  exact ⟨rfl, B4⟩

/-- the document's bytes behind these fields -/
def qstg (x : Rc) (G : List (Nat × Int)) : ByteArray := tx (recM ++ fldB [(1, x.k), (8, x.q)] ++ fldB G)
theorem qstg_size (x : Rc) (G : List (Nat × Int)) : (qstg x G).size = 13 + (fldB G).length := by
  rw [qstg, tx_size, List.length_append, rhead_len]
theorem qstg_snoc (x : Rc) (G : List (Nat × Int)) (f : Nat × Int) : qstg x G ++ tx (leBytes f.1 f.2.toNat) = qstg x (G ++ [f]) := by
  have e0 : fldB [f] = leBytes f.1 f.2.toNat := by simp [fldB]
  rw [qstg, qstg, tx_app, fldB_append, e0]
  simp only [List.append_assoc]
theorem qstg_put (x : Rc) (G : List (Nat × Int)) (f : Nat × Int) (hf : fldOk f) (hl : (fldB G).length ≤ 1000) (m v : Int) (hm : m = (f.1 : Nat)) (hv : v = f.2) (W : World) :
    Calls Try.prog 32 #[.string (qstg x G), .int .i64 m, .int .u64 v] W fun e w' => e = .returned (.string (qstg x (G ++ [f]))) ∧ Below W.heap.size W w' := by
  subst hm hv
  have := r8put_any (qstg x G) f.1 f.2 W (by rw [qstg_size]; omega) hf.1 hf.2.1 hf.2.2
  rw [qstg_snoc] at this
  exact this
theorem qstg_one (x : Rc) (q : Int) (hq : q = x.k) (hf : fldOk (1, x.k)) (W : World) :
    Calls Try.prog 32 #[.string ⟨#[71, 76, 74, 119]⟩, .int .i64 1, .int .u64 q] W fun e w' => e = .returned (.string (tx (recM ++ fldB [(1, x.k)]))) ∧ Below W.heap.size W w' := by
  subst hq
  have := r8put_any ⟨#[71, 76, 74, 119]⟩ 1 x.k W (by decide) hf.1 hf.2.1 hf.2.2
  have e : (⟨#[71, 76, 74, 119]⟩ : ByteArray) = tx recM := rfl
  have e0 : fldB [(1, x.k)] = leBytes 1 x.k.toNat := by simp [fldB]
  rw [e, tx_app] at this
  rw [e, e0]
  exact this
theorem qstg_two (x : Rc) (q : Int) (hq : q = x.q) (hf : fldOk (8, x.q)) (W : World) :
    Calls Try.prog 32 #[.string (tx (recM ++ fldB [(1, x.k)])), .int .i64 8, .int .u64 q] W fun e w' => e = .returned (.string (qstg x [])) ∧ Below W.heap.size W w' := by
  subst hq
  have := r8put_any (tx (recM ++ fldB [(1, x.k)])) 8 x.q W (by rw [tx_size]; simp [recM, fldB, leBytes_length]) hf.1 hf.2.1 hf.2.2
  rw [tx_app] at this
  have e : fldB [(1, x.k), (8, x.q)] = fldB [(1, x.k)] ++ leBytes 8 x.q.toNat := by simp [fldB]
  rw [List.append_assoc, ← e] at this
  rw [qstg, fldB_nil, List.append_nil]
  exact this
theorem rec_last2 {x : Rc} : qstg x x.body ++ zerosB (124 - x.many) = tx x.bytes := by
  rw [qstg, Rc.bytes, Rc.fs, zerosB]
  show tx _ ++ tx _ = _
  rw [tx_app, fldB_cons, fldB_cons, fldB_cons, fldB_cons, fldB_nil]
  simp only [List.append_assoc, List.append_nil]

theorem rec2_keep {w W W' : World} {K : Nat} {v0 v1 v2 v3 v4 v5 : Value} (h : W.cell? ⟨K, 0, none⟩ = some v0 ∧ W.cell? ⟨K, 1, none⟩ = some v1 ∧ RowAt W K [v0, v1, v2, v3, v4, v5] ∧ Below w.heap.size w W ∧ w.heap.size ≤ W.heap.size) (hb : Below W.heap.size W W') : W'.cell? ⟨K, 0, none⟩ = some v0 ∧ W'.cell? ⟨K, 1, none⟩ = some v1 ∧ RowAt W' K [v0, v1, v2, v3, v4, v5] ∧ Below w.heap.size w W' ∧ w.heap.size ≤ W'.heap.size := by
  obtain ⟨_, _, hr, h1, h2⟩ := h
  have hr' := hr.below hb hr.lt
  exact ⟨hr'.cell 0 (by simp), hr'.cell 1 (by simp), hr', below_chain h1 hb h2, Nat.le_trans h2 hb.size⟩
theorem rec2_ends {w W : World} {K : Nat} {v0 v1 v2 v3 v4 v5 : Value} (h : W.cell? ⟨K, 0, none⟩ = some v0 ∧ W.cell? ⟨K, 1, none⟩ = some v1 ∧ RowAt W K [v0, v1, v2, v3, v4, v5] ∧ Below w.heap.size w W ∧ w.heap.size ≤ W.heap.size) : RowAt W K [v0, v1, v2, v3, v4, v5] ∧ Below w.heap.size w W := ⟨h.2.2.1, h.2.2.2.1⟩

set_option maxHeartbeats 2000000 in
theorem r8enc_head (w : World) (q t s : Int) (ah : Option Addr) (ch : Nat) (am : Option Addr) (cm : Nat) (P1 P2 P3 P4 : ByteArray) (m : Nat) (hm : P3.size + m = 128) (hv : 0 ≤ t) (hv2 : t ≤ 4294967295)
    (HK : Hid (∀ W, Below w.heap.size w W → Calls Try.prog 31 #[rv 1 q t ah 0 ch am 0 cm s] W fun e w' => e = .returned (.bool true) ∧ Below W.heap.size W w'))
    (HC0 : Hid (∀ W, Calls Try.prog 32 #[.string ⟨#[71, 76, 74, 119]⟩, .int .i64 1, .int .u64 1] W fun e w' => e = .returned (.string P1) ∧ Below W.heap.size W w'))
    (HC1 : Hid (∀ W, Calls Try.prog 32 #[.string P1, .int .i64 8, .int .u64 q] W fun e w' => e = .returned (.string P2) ∧ Below W.heap.size W w'))
    (HC2 : Hid (∀ W, Calls Try.prog 32 #[.string P2, .int .i64 2, .int .u64 t] W fun e w' => e = .returned (.string P3) ∧ Below W.heap.size W w'))
    (H8 : Hid (P3 ++ zerosB m = P4)) :
    Calls Try.prog 12 #[rv 1 q t ah 0 ch am 0 cm s] w fun e w' => e = .returned (.tuple #[.string P4, .int .i64 0]) ∧ Below w.heap.size w w' := by
  obtain ⟨i0, hi, hz0, hz1, hz2⟩ := info_parts info_u8
  have HI := Lib.hid (And.intro hi (And.intro hz0 (And.intro hz1 hz2)))
  clear hi hz0 hz1 hz2
  have hB0 : Below w.heap.size w (w.alloc (.cells (rcells 1 q t ah 0 ch am 0 cm s) 27)) := (Below.refl w.heap.size w).alloc (Nat.le_refl _) _
  have hr0 := rowAt_alloc w (rcells 1 q t ah 0 ch am 0 cm s) 27
  go_enter Try.func12, Try.ntmps12
  go_wp2_with fail
  refine (HK.out _ hB0).mono ?_
  rintro e w1 ⟨rfl, hb1⟩
  have B1 := below_chain hB0 hb1 hB0.size
  have r1 := hr0.below hb1 hr0.lt
  clear hr0 hb1 hB0
  have c0 : w1.cell? ⟨w.heap.size, 0, none⟩ = some (.int .i64 1) := r1.cell 0 (by simp)
  have c1 : w1.cell? ⟨w.heap.size, 1, none⟩ = some (.int .u64 q) := r1.cell 1 (by simp)
  have B1s : w.heap.size ≤ w1.heap.size := B1.size
  have hl1 := r1.lt
  go_wp2_with fail
  go_region_held3 (fun w' => w'.cell? ⟨w.heap.size, 0, none⟩ = some (.int .i64 1) ∧ w'.cell? ⟨w.heap.size, 1, none⟩ = some (.int .u64 q) ∧ RowAt w' w.heap.size [.int .i64 1, .int .u64 q, .int .i64 t, .slice ah 0 ch, .slice am 0 cm, .int .u32 s] ∧ Below w.heap.size w w' ∧ w.heap.size ≤ w'.heap.size) (first | (exact rec2_keep ⟨c0, c1, r1, B1, B1s⟩ ((Below.refl _ _).drew)) | (exact rec2_keep (by assumption) (by assumption)))
    (first | (go_at_call_of 32 (P1); refine (HC1.out _).mono ?_; rintro e w' ⟨rfl, hb'⟩) | (go_at_call 32; refine (HC0.out _).mono ?_; rintro e w' ⟨rfl, hb'⟩))
  obtain ⟨r2, B2⟩ := rec2_ends (W := w') (by assumption)
  clear c0 c1 r1 B1 B1s hl1
  obtain ⟨c0, c1, c2, c3, c4, c5⟩ := sixr_cells r2
  have hl2 := r2.lt
  go_wp2_with fail
  refine (HC2.out _).mono ?_
  rintro e w3 ⟨rfl, hb3⟩
  have B3 := below_chain B2 hb3 B2.size
  clear c0 c1 c2 c3 c4 c5
  have r3 := r2.below hb3 r2.lt
  obtain ⟨c0, c1, c2, c3, c4, c5⟩ := sixr_cells r3
  have hl3 := r3.lt
  go_wp2_with fail
  refine wp_loop_rounds 1 ?_
  rw [rounds_succ]
  go_wp2_with fail
  refine wp_loop_rounds 1 ?_
  rw [rounds_succ]
  have hmi : (128 : Int) - (P3.size : Int) = (m : Int) := by omega
  have z1 := zerosB_size m
  have z3 : ¬ 9223372036854775807 < P3.size + m := by omega
  obtain ⟨W4, hmk, hbm, hrm⟩ := make_bytes (P := Try.prog) w3 62 5 i0 Try.underlying62 HI.out.1 HI.out.2.1 HI.out.2.2.1 HI.out.2.2.2 m (by omega)
  have hback : (convert 62 9 (.slice (some ⟨w3.heap.size, 0, none⟩) m m)).run Try.prog W4 = .ok (.string (zerosB m)) W4 := conv_string (P := Try.prog) W4 62 9 5 w3.heap.size m m _ Try.underlying62 Try.underlying5 Try.underlying9 hrm (by simp)
  have B4 := below_chain B3 hbm B3.size
  clear hrm hbm
  go_wp2_with fail
  go_ret2
  rw [H8.out]
  exact ⟨rfl, B4⟩

set_option maxHeartbeats 2000000 in
theorem r8enc_commit (w : World) (q t s : Int) (ah : Option Addr) (ch : Nat) (am : Option Addr) (cm : Nat) (P1 P2 P3 P4 : ByteArray) (m : Nat) (hm : P3.size + m = 128) (hv : 0 ≤ s) (hv2 : s ≤ 4294967295)
    (HK : Hid (∀ W, Below w.heap.size w W → Calls Try.prog 31 #[rv 4 q t ah 0 ch am 0 cm s] W fun e w' => e = .returned (.bool true) ∧ Below W.heap.size W w'))
    (HC0 : Hid (∀ W, Calls Try.prog 32 #[.string ⟨#[71, 76, 74, 119]⟩, .int .i64 1, .int .u64 4] W fun e w' => e = .returned (.string P1) ∧ Below W.heap.size W w'))
    (HC1 : Hid (∀ W, Calls Try.prog 32 #[.string P1, .int .i64 8, .int .u64 q] W fun e w' => e = .returned (.string P2) ∧ Below W.heap.size W w'))
    (HC2 : Hid (∀ W, Calls Try.prog 32 #[.string P2, .int .i64 4, .int .u64 s] W fun e w' => e = .returned (.string P3) ∧ Below W.heap.size W w'))
    (H8 : Hid (P3 ++ zerosB m = P4)) :
    Calls Try.prog 12 #[rv 4 q t ah 0 ch am 0 cm s] w fun e w' => e = .returned (.tuple #[.string P4, .int .i64 0]) ∧ Below w.heap.size w w' := by
  obtain ⟨i0, hi, hz0, hz1, hz2⟩ := info_parts info_u8
  have HI := Lib.hid (And.intro hi (And.intro hz0 (And.intro hz1 hz2)))
  clear hi hz0 hz1 hz2
  have hB0 : Below w.heap.size w (w.alloc (.cells (rcells 4 q t ah 0 ch am 0 cm s) 27)) := (Below.refl w.heap.size w).alloc (Nat.le_refl _) _
  have hr0 := rowAt_alloc w (rcells 4 q t ah 0 ch am 0 cm s) 27
  go_enter Try.func12, Try.ntmps12
  go_wp2_with fail
  refine (HK.out _ hB0).mono ?_
  rintro e w1 ⟨rfl, hb1⟩
  have B1 := below_chain hB0 hb1 hB0.size
  have r1 := hr0.below hb1 hr0.lt
  clear hr0 hb1 hB0
  have c0 : w1.cell? ⟨w.heap.size, 0, none⟩ = some (.int .i64 4) := r1.cell 0 (by simp)
  have c1 : w1.cell? ⟨w.heap.size, 1, none⟩ = some (.int .u64 q) := r1.cell 1 (by simp)
  have B1s : w.heap.size ≤ w1.heap.size := B1.size
  have hl1 := r1.lt
  go_wp2_with fail
  go_region_held3 (fun w' => w'.cell? ⟨w.heap.size, 0, none⟩ = some (.int .i64 4) ∧ w'.cell? ⟨w.heap.size, 1, none⟩ = some (.int .u64 q) ∧ RowAt w' w.heap.size [.int .i64 4, .int .u64 q, .int .i64 t, .slice ah 0 ch, .slice am 0 cm, .int .u32 s] ∧ Below w.heap.size w w' ∧ w.heap.size ≤ w'.heap.size) (first | (exact rec2_keep ⟨c0, c1, r1, B1, B1s⟩ ((Below.refl _ _).drew)) | (exact rec2_keep (by assumption) (by assumption)))
    (first | (go_at_call_of 32 (P1); refine (HC1.out _).mono ?_; rintro e w' ⟨rfl, hb'⟩) | (go_at_call 32; refine (HC0.out _).mono ?_; rintro e w' ⟨rfl, hb'⟩))
  obtain ⟨r2, B2⟩ := rec2_ends (W := w') (by assumption)
  clear c0 c1 r1 B1 B1s hl1
  obtain ⟨c0, c1, c2, c3, c4, c5⟩ := sixr_cells r2
  have hl2 := r2.lt
  go_wp2_with fail
  refine (HC2.out _).mono ?_
  rintro e w3 ⟨rfl, hb3⟩
  have B3 := below_chain B2 hb3 B2.size
  clear c0 c1 c2 c3 c4 c5
  have r3 := r2.below hb3 r2.lt
  obtain ⟨c0, c1, c2, c3, c4, c5⟩ := sixr_cells r3
  have hl3 := r3.lt
  go_wp2_with fail
  refine wp_loop_rounds 1 ?_
  rw [rounds_succ]
  go_wp2_with fail
  refine wp_loop_rounds 1 ?_
  rw [rounds_succ]
  have hmi : (128 : Int) - (P3.size : Int) = (m : Int) := by omega
  have z1 := zerosB_size m
  have z3 : ¬ 9223372036854775807 < P3.size + m := by omega
  obtain ⟨W4, hmk, hbm, hrm⟩ := make_bytes (P := Try.prog) w3 62 5 i0 Try.underlying62 HI.out.1 HI.out.2.1 HI.out.2.2.1 HI.out.2.2.2 m (by omega)
  have hback : (convert 62 9 (.slice (some ⟨w3.heap.size, 0, none⟩) m m)).run Try.prog W4 = .ok (.string (zerosB m)) W4 := conv_string (P := Try.prog) W4 62 9 5 w3.heap.size m m _ Try.underlying62 Try.underlying5 Try.underlying9 hrm (by simp)
  have B4 := below_chain B3 hbm B3.size
  clear hrm hbm
  go_wp2_with fail
  go_ret2
  rw [H8.out]
  exact ⟨rfl, B4⟩

end Go.Proofs.Ytfgnemddamebaaa
