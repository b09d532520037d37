/- Walks: an inode encoded. -/
import Derived.Test.YtdeemaafngehoaaInoWalks2
set_option linter.unusedVariables false
set_option linter.unusedSimpArgs false
set_option maxRecDepth 100000
namespace Go.Proofs.Ytdeemaafngehoaa
open Go.RowKit Go.Joins

theorem six_cells {w : World} {K : Nat} {v0 v1 v2 v3 v4 v5 : Value} (h : RowAt w K [v0, v1, v2, v3, v4, v5]) : w.cell? ⟨K, 0, none⟩ = some v0 ∧ w.cell? ⟨K, 1, none⟩ = some v1 ∧ w.cell? ⟨K, 2, none⟩ = some v2 ∧ w.cell? ⟨K, 3, none⟩ = some v3 ∧ w.cell? ⟨K, 4, none⟩ = some v4 ∧ w.cell? ⟨K, 5, none⟩ = some v5 :=
  ⟨h.cell 0 (by simp), h.cell 1 (by simp), h.cell 2 (by simp), h.cell 3 (by simp), h.cell 4 (by simp), h.cell 5 (by simp)⟩

/-- the bytes behind so many fields -/
def stg (x : Ino) (j : Nat) : ByteArray := tx (fldB (x.hdF.take j) ++ List.replicate (64 - (fldB (x.hdF.take j)).length) 0)

theorem fldB_len (F : List (Nat × Int)) : (fldB F).length = (F.map (·.1)).sum := by
  induction F with
  | nil => rfl
  | cons f r ih =>
    have : fldB (f :: r) = leBytes f.1 f.2.toNat ++ fldB r := rfl
    rw [this, List.length_append, leBytes_length, ih]
    simp

theorem stg_step {x : Ino} (h : x.ok = true) (j : Nat) (hj : j < x.hdF.length) (hl : (fldB (x.hdF.take j)).length + (x.hdF[j]).1 ≤ 64) :
    putIOk (stg x j) ((fldB (x.hdF.take j)).length : Nat) ((x.hdF[j]).1 : Nat) (x.hdF[j]).2 = true ∧ putIV (stg x j) ((fldB (x.hdF.take j)).length : Nat) ((x.hdF[j]).1 : Nat) (x.hdF[j]).2 = stg x (j + 1) ∧ (stg x j).size ≤ maxLen := by
  obtain ⟨a, b, c, d⟩ := Ino.hdF_small h (x.hdF[j]) (List.getElem_mem hj)
  have e : 64 - (fldB (x.hdF.take j)).length = (x.hdF[j]).1 + (64 - (fldB (x.hdF.take j)).length - (x.hdF[j]).1) := by omega
  have := put_zeros (fldB (x.hdF.take j)) (x.hdF[j]).1 (64 - (fldB (x.hdF.take j)).length - (x.hdF[j]).1) (x.hdF[j]).2 a b c
  rw [← e] at this
  refine ⟨this.1, this.2.trans ?_, ?_⟩
  · unfold stg
    have e2 : fldB (x.hdF.take (j + 1)) = fldB (x.hdF.take j) ++ leBytes (x.hdF[j]).1 (x.hdF[j]).2.toNat := by
      rw [List.take_succ_eq_append_getElem hj, fldB_append]
      simp [fldB]
    rw [e2]
    congr 2
    simp [leBytes_length]
    omega
  · unfold stg
    rw [tx_size]
    simp
    unfold maxLen
    omega

theorem stg_puts {x : Ino} (h : x.ok = true) (j : Nat) (hj : j < 6) (a n v : Int) (ha : a = ([0, 1, 2, 4, 12, 13][j]'(by simpa using hj))) (hn : n = ([1, 1, 2, 8, 1, 1][j]'(by simpa using hj))) (hv : v = (x.hdF[j]'(by simpa [Ino.hdF] using hj)).2) (W : World) :
    Calls Try.prog 43 #[.string (stg x j), .int .i64 a, .int .i64 n, .int .i64 v] W fun e w' => e = .returned (.tuple #[.string (stg x (j + 1)), .bool true]) ∧ Below W.heap.size W w' := by
  have hj' : j < x.hdF.length := by simpa [Ino.hdF] using hj
  have hl : (fldB (x.hdF.take j)).length = [0, 1, 2, 4, 12, 13][j]'(by simpa using hj) := by
    rw [fldB_len]
    obtain rfl | rfl | rfl | rfl | rfl | rfl : j = 0 ∨ j = 1 ∨ j = 2 ∨ j = 3 ∨ j = 4 ∨ j = 5 := by omega
    all_goals simp [Ino.hdF]
  have hw : (x.hdF[j]).1 = [1, 1, 2, 8, 1, 1][j]'(by simpa using hj) := by
    obtain rfl | rfl | rfl | rfl | rfl | rfl : j = 0 ∨ j = 1 ∨ j = 2 ∨ j = 3 ∨ j = 4 ∨ j = 5 := by omega
    all_goals simp [Ino.hdF]
  have hle : (fldB (x.hdF.take j)).length + (x.hdF[j]).1 ≤ 64 := by
    rw [hl, hw]
    obtain rfl | rfl | rfl | rfl | rfl | rfl : j = 0 ∨ j = 1 ∨ j = 2 ∨ j = 3 ∨ j = 4 ∨ j = 5 := by omega
    all_goals simp
  obtain ⟨s1, s2, s3⟩ := stg_step h j hj' hle
  have e1 : a = ((fldB (x.hdF.take j)).length : Nat) := by
    rw [ha, hl]
    obtain rfl | rfl | rfl | rfl | rfl | rfl : j = 0 ∨ j = 1 ∨ j = 2 ∨ j = 3 ∨ j = 4 ∨ j = 5 := by omega
    all_goals rfl
  have e2 : n = ((x.hdF[j]).1 : Nat) := by
    rw [hn, hw]
    obtain rfl | rfl | rfl | rfl | rfl | rfl : j = 0 ∨ j = 1 ∨ j = 2 ∨ j = 3 ∨ j = 4 ∨ j = 5 := by omega
    all_goals rfl
  rw [← e1, ← e2, ← hv] at s1 s2
  have hvb : v ≤ 9223372036854775807 := by
    rw [hv]
    have := (Ino.hdF_small h (x.hdF[j]) (List.getElem_mem hj')).2.2.2
    omega
  have := putint_any (stg x j) a n v W s3 hvb
  rw [s1, s2] at this
  exact this

theorem stg_first (x : Ino) : zerosB 64 = stg x 0 := by
  simp [stg, fldB, zerosB, tx]
theorem stg_last (x : Ino) : stg x 6 = tx (x.hd ++ List.replicate 50 0) := by
  have e : x.hdF.take 6 = x.hdF := List.take_of_length_le (by simp [Ino.hdF])
  have := x.hd_length
  rw [stg, e]
  unfold Ino.hd at *
  rw [this]

theorem zeros64 : (⟨(Lib.repeatL (ByteArray.mk #[0]).data.toList 64).toArray⟩ : ByteArray) = zerosB 64 := by decide +kernel

theorem sixty_index (k p l s d n : Int) (j : Nat) (hj : j < 6) : ∀ w, (Instr.index 72 (.agg #[.int .i64 0, .int .i64 1, .int .i64 k, .int .i64 1, .int .i64 1, .int .i64 p, .int .i64 2, .int .i64 2, .int .i64 l, .int .i64 4, .int .i64 8, .int .i64 s, .int .i64 12, .int .i64 1, .int .i64 d, .int .i64 13, .int .i64 1, .int .i64 n]) (.int .i64 (j : Int))).run Try.prog w = .ok (.agg #[.int .i64 ([0, 1, 2, 4, 12, 13][j]'(by simpa using hj)), .int .i64 ([1, 1, 2, 8, 1, 1][j]'(by simpa using hj)), .int .i64 ([k, p, l, s, d, n][j]'(by simpa using hj))]) w := by
  obtain rfl | rfl | rfl | rfl | rfl | rfl : j = 0 ∨ j = 1 ∨ j = 2 ∨ j = 3 ∨ j = 4 ∨ j = 5 := by omega
  · exact fun _ => by kernel_rfl
  · exact fun _ => by kernel_rfl
  · exact fun _ => by kernel_rfl
  · exact fun _ => by kernel_rfl
  · exact fun _ => by kernel_rfl
  · exact fun _ => by kernel_rfl

set_option maxHeartbeats 2000000 in
theorem ienc_yes (x : Ino) (a : Option Addr) (cap : Nat) (w : World) (hE : EntS w a x.es) (h : x.ok = true) :
    Calls Try.prog 17 #[inoV x a cap] w fun e w' => e = .returned (.tuple #[.string (tx x.bytes), .int .i64 0]) ∧ Below w.heap.size w w' := by
  have hsm := Ino.ok_small h
  have hn : x.es.length ≤ 4 := hsm.2.2.2.2.2.2.2.2.1
  have HC1 := Lib.hid (fun W (hb : Below w.heap.size w W) => by have := icheck_any x a cap W (by omega) (hE.below hb (Nat.le_refl _)); rw [h] at this; exact this : ∀ W, Below w.heap.size w W → Calls Try.prog 19 #[inoV x a cap] W fun e w' => e = .returned (.bool true) ∧ Below W.heap.size W w')
  have HC2 := Lib.hid (fun W => by have := Try.strings_Repeat ⟨#[0]⟩ 64 W (by decide) (by decide); rw [zeros64] at this; exact this : ∀ W, Calls Try.prog 41 #[.string ⟨#[0]⟩, .int .i64 64] W fun e w' => e = .returned (.string (zerosB 64)) ∧ Below W.heap.size W w')
  have HP := Lib.hid (fun W j hj av nv v ha hn hv => stg_puts h j hj av nv v ha hn hv W)
  have HE := Lib.hid (fun W (hb : Below w.heap.size w W) => by
    have := putEnt_any x.hd 50 cap W (hE.below hb (Nat.le_refl _)) (by omega) (by rw [Ino.hd_length]; omega) (by omega) (by omega) (fun y hy => hsm.2.2.2.2.2.2.2.2.2 y hy)
    rw [Ino.hd_length, ← stg_last] at this
    exact this : ∀ W, Below w.heap.size w W → Calls Try.prog 44 #[.string (stg x 6), .int .i64 14, .slice a x.es.length cap] W fun e w' => e = .returned (.string (tx x.bytes)) ∧ Below W.heap.size W w')
  have hB0 : Below w.heap.size w (w.alloc (.cells #[.int .i64 x.k, .bool x.p, .int .i64 x.l, .int .i64 x.s, .int .i64 x.d, .slice a x.es.length cap] 24)) := (Below.refl w.heap.size w).alloc (Nat.le_refl _) _
  have hr0 := rowAt_alloc w #[.int .i64 x.k, .bool x.p, .int .i64 x.l, .int .i64 x.s, .int .i64 x.d, .slice a x.es.length cap] 24
  have hz := zerosB_size 64
  have HI := Lib.hid (fun j hj => sixty_index x.k (pinI x.p) x.l x.s x.d x.es.length j hj)
  have HX := Lib.hid (stg_first x)
  have hnn : x.es.length ≤ 100000 := by omega
  clear h hsm hn
  go_enter Try.func17, Try.ntmps17
  go_wp2_with fail
  refine (HC1.out _ hB0).mono ?_
  rintro e w1 ⟨rfl, hb1⟩
  have B1 := below_chain hB0 hb1 hB0.size
  have hr1 := hr0.below hb1 hr0.lt
  clear hr0 hb1
  go_wp2_with fail
  refine (HC2.out _).mono ?_
  rintro e w2 ⟨rfl, hb2⟩
  have B2 := below_chain B1 hb2 B1.size
  have hr2 := hr1.below hb2 hr1.lt
  clear hr1 hb2
  obtain ⟨c0, c1, c2, c3, c4, c5⟩ := six_cells hr2
  go_wp2_with fail
  go_quiet ((go_at_call 42; exact Calls.quiet_of_same ((one_any _ _).mono fun _ _ h => ⟨h.1, h.2.symm⟩)))
  clear c0 c1 c2 c3 c4 c5
  rw [HX.out]
  have B3 : Below w.heap.size w (w2.drewN nq) := B2.trans (below_le (below_draws _ _ _) B2.size)
  have hr3 : RowAt (w2.drewN nq) w.heap.size [.int .i64 x.k, .bool x.p, .int .i64 x.l, .int .i64 x.s, .int .i64 x.d, .slice a x.es.length cap] := hr2.below (below_draws _ _ _) hr2.lt
  obtain ⟨w3, hw3⟩ : ∃ w3, w3 = w2.drewN nq := ⟨_, rfl⟩
  rw [← hw3] at B3 hr3 ⊢
  clear hw3 hr2
  go_wp2_with fail
  go_loopw [4, 34] (fun s jj wr => ∃ j : Nat, j ≤ 6 ∧ jj = .int .i64 j ∧ s = .string (stg x j) ∧ RowAt wr w.heap.size [.int .i64 x.k, .bool x.p, .int .i64 x.l, .int .i64 x.s, .int .i64 x.d, .slice a x.es.length cap] ∧ Below w.heap.size w wr) (fun _ jj _ => 6 - (intOf jj).toNat)
  case atStart => exact ⟨0, by omega, rfl, rfl, hr3, B3⟩
  case round =>
    clear hr3 B3
    obtain ⟨j, hj, rfl, rfl, hr4, B4⟩ := hrel
    by_cases hlt : j < 6
    · have hx := HI.out j hlt
      obtain ⟨av, hav⟩ : ∃ av : Int, av = [0, 1, 2, 4, 12, 13][j]'(by simpa using hlt) := ⟨_, rfl⟩
      obtain ⟨nv, hnv⟩ : ∃ nv : Int, nv = [1, 1, 2, 8, 1, 1][j]'(by simpa using hlt) := ⟨_, rfl⟩
      obtain ⟨vv, hvv⟩ : ∃ vv : Int, vv = [x.k, pinI x.p, x.l, x.s, x.d, (x.es.length : Int)][j]'(by simpa using hlt) := ⟨_, rfl⟩
      have hv2 : vv = (x.hdF[j]'(by simpa [Ino.hdF] using hlt)).2 := by
        rw [hvv]
        obtain rfl | rfl | rfl | rfl | rfl | rfl : j = 0 ∨ j = 1 ∨ j = 2 ∨ j = 3 ∨ j = 4 ∨ j = 5 := by omega
        all_goals simp [Ino.hdF]
      rw [← hav, ← hnv, ← hvv] at hx
      have HC := Lib.hid (fun W => HP.out W j hlt av nv vv hav hnv hv2)
      clear hav hnv hvv hv2
      go_wp2_with fail
      refine (HC.out _).mono ?_
      rintro e w5 ⟨rfl, hb5⟩
      have B5 := below_chain (B4.alloc B4.size _) hb5 (B4.alloc B4.size _).size
      have hr5 := (hr4.alloc (.cells #[.int .i64 av, .int .i64 nv, .int .i64 vv] 70)).below hb5 (hr4.alloc _).lt
      go_wp2_with fail
      go_roundw
      case rel => exact ⟨j + 1, by omega, by go_num, rfl, hr5, B5⟩
      case measure => simp [intOf]; omega
    · obtain rfl : j = 6 := by omega
      obtain ⟨c0, c1, c2, c3, c4, c5⟩ := six_cells hr4
      go_wp2_with fail
      refine (HE.out _ B4).mono ?_
      rintro e w5 ⟨rfl, hb5⟩
      have B5 := below_chain B4 hb5 B4.size
      go_wp2_with fail
      go_ret2
      exact ⟨rfl, B5⟩

set_option maxHeartbeats 1000000 in
theorem ienc_no (x : Ino) (a : Option Addr) (cap : Nat) (w : World) (hE : EntS w a x.es) (hn : x.es.length ≤ 100000) (h : x.ok = false) :
    Calls Try.prog 17 #[inoV x a cap] w fun e w' => e = .returned (.tuple #[.string ⟨#[]⟩, .int .i64 2]) ∧ Below w.heap.size w w' := by
  have HC1 := Lib.hid (fun W (hb : Below w.heap.size w W) => by have := icheck_any x a cap W hn (hE.below hb (Nat.le_refl _)); rw [h] at this; exact this : ∀ W, Below w.heap.size w W → Calls Try.prog 19 #[inoV x a cap] W fun e w' => e = .returned (.bool false) ∧ Below W.heap.size W w')
  have hB0 : Below w.heap.size w (w.alloc (.cells #[.int .i64 x.k, .bool x.p, .int .i64 x.l, .int .i64 x.s, .int .i64 x.d, .slice a x.es.length cap] 24)) := (Below.refl w.heap.size w).alloc (Nat.le_refl _) _
  clear h
  go_enter Try.func17, Try.ntmps17
  go_wp2_with fail
  refine (HC1.out _ hB0).mono ?_
  rintro e w1 ⟨rfl, hb1⟩
  have B1 := below_chain hB0 hb1 hB0.size
  go_wp2_with fail
  go_ret2
  exact ⟨rfl, B1⟩

end Go.Proofs.Ytdeemaafngehoaa
