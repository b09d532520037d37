/- Walks: the document's answer: numbers behind bytes. -/
import Derived.Test.YtdeemaafngehoaaInoWalks3
import Derived.Deep.RegionHeld3
set_option linter.unusedVariables false
set_option linter.unusedSimpArgs false
set_option maxRecDepth 100000
namespace Go.Proofs.Ytdeemaafngehoaa
open Go.RowKit Go.Joins

theorem info_u8 : (Try.prog.info? 5).map (fun i => (i.zero, i.size, i.bytes)) = some (some (.int .u8 0), 1, 1) := by kernel_rfl

/-- a number alone -/
theorem put_alone (n : Nat) (v : Int) (hn : n = 1 ∨ n = 2 ∨ n = 4 ∨ n = 8) (h0 : 0 ≤ v) (h1 : v.toNat < 256 ^ n) :
    putIOk (zerosB n) 0 (n : Nat) v = true ∧ putIV (zerosB n) 0 (n : Nat) v = tx (leBytes n v.toNat) := by
  have := put_zeros [] n 0 v hn h0 h1
  simpa [zerosB, tx] using this

set_option maxHeartbeats 1000000 in
theorem rputn_any (s : ByteArray) (n : Nat) (v : Int) (w : World) (hs : s.size ≤ 1000000) (hn : n = 1 ∨ n = 2 ∨ n = 4 ∨ n = 8) (h0 : 0 ≤ v) (h1 : v.toNat < 256 ^ n) (h2 : v ≤ 9223372036854775807) :
    Calls Try.prog 45 #[.string s, .int .i64 (n : Int), .int .i64 v] w fun e w' => e = .returned (.string (s ++ tx (leBytes n v.toNat))) ∧ Below w.heap.size w w' := by
  obtain ⟨i0, hi, hz0, hz1, hz2⟩ := info_parts info_u8
  obtain ⟨p1, p2⟩ := put_alone n v hn h0 h1
  have HC := Lib.hid (fun W => by have := rputint_any (zerosB n) 0 (n : Nat) v W (by rw [zerosB_size]; unfold maxLen; omega) h2; rw [p1, p2] at this; exact this : ∀ W, Calls Try.prog 73 #[.string (zerosB n), .int .i64 0, .int .i64 (n : Int), .int .i64 v] W fun e w' => e = .returned (.tuple #[.string (tx (leBytes n v.toNat)), .bool true]) ∧ Below W.heap.size W w')
  obtain ⟨W1, hmk, hbm, hrm⟩ := make_bytes (P := Try.prog) w 39 5 i0 Try.underlying39 hi hz0 hz1 hz2 n (by omega)
  have hback : (convert 39 9 (.slice (some ⟨w.heap.size, 0, none⟩) n n)).run Try.prog W1 = .ok (.string (zerosB n)) W1 := conv_string (P := Try.prog) W1 39 9 5 w.heap.size n n _ Try.underlying39 Try.underlying5 Try.underlying9 hrm (by simp)
  have hnb : n ≤ 8 := by omega
  obtain ⟨T, hT⟩ : ∃ T, T = tx (leBytes n v.toNat) := ⟨_, rfl⟩
  have hTs : T.size ≤ 8 := by rw [hT, tx_size, leBytes_length]; exact hnb
  rw [← hT] at HC ⊢
  have z3 : ¬ 9223372036854775807 < s.size + T.size := by omega
  clear hi hz0 hz1 hz2 p1 p2 hrm hn hT h1
  have hsz := hbm.size
  go_enter Try.func45, Try.ntmps45
  go_wp2_with fail
  refine (HC.out _).mono ?_
  rintro e w4 ⟨rfl, hb4⟩
  have B4 := below_chain hbm hb4 hbm.size
  go_wp2_with fail
  go_ret
  exact ⟨rfl, B4⟩

theorem rput_at (s : ByteArray) (m v : Int) (w : World) (n : Nat) (hm : m = (n : Nat)) (hs : s.size ≤ 1000000) (hn : n = 1 ∨ n = 2 ∨ n = 4 ∨ n = 8) (h0 : 0 ≤ v) (h1 : v.toNat < 256 ^ n) (h2 : v ≤ 9223372036854775807) :
    Calls Try.prog 45 #[.string s, .int .i64 m, .int .i64 v] w fun e w' => e = .returned (.string (s ++ tx (leBytes n v.toNat))) ∧ Below w.heap.size w w' := by
  subst hm
  exact rputn_any s n v w hs hn h0 h1 h2

theorem rents_none (s : ByteArray) (a : Option Addr) (cap : Nat) (w : World) :
    Calls Try.prog 46 #[.string s, .slice a 0 cap] w fun e w' => e = .returned (.string s) ∧ Below w.heap.size w w' := by
  go_enter Try.func46, Try.ntmps46
  go_wp2_with fail
  refine wp_loop_rounds 1 ?_
  rw [rounds_succ]
  go_wp2_with fail
  go_ret
  exact ⟨rfl, Below.refl _ _⟩

/-- three cells of an elder block, and all below -/
def Three (w0 : World) (B o : Nat) (x y z : Int) (w : World) : Prop := w.cell? ⟨B, o, none⟩ = some (.int .i64 x) ∧ w.cell? ⟨B, o + 1, none⟩ = some (.int .i64 y) ∧ w.cell? ⟨B, o + 2, none⟩ = some (.int .i64 z) ∧ Below w0.heap.size w0 w ∧ w0.heap.size ≤ w.heap.size ∧ B < w0.heap.size

theorem three_keep {w0 w w' : World} {B o : Nat} {x y z : Int} (h : w.cell? ⟨B, o, none⟩ = some (.int .i64 x) ∧ w.cell? ⟨B, o + 1, none⟩ = some (.int .i64 y) ∧ w.cell? ⟨B, o + 2, none⟩ = some (.int .i64 z) ∧ Below w0.heap.size w0 w ∧ w0.heap.size ≤ w.heap.size ∧ B < w0.heap.size) (hb : Below w.heap.size w w') :
    w'.cell? ⟨B, o, none⟩ = some (.int .i64 x) ∧ w'.cell? ⟨B, o + 1, none⟩ = some (.int .i64 y) ∧ w'.cell? ⟨B, o + 2, none⟩ = some (.int .i64 z) ∧ Below w0.heap.size w0 w' ∧ w0.heap.size ≤ w'.heap.size ∧ B < w0.heap.size := by
  obtain ⟨a, b, c, hB, hs, hl⟩ := h
  have e := hb.block B (by omega)
  unfold World.cell? at *
  simp only [e]
  exact ⟨a, b, c, below_chain hB hb hs, Nat.le_trans hs hb.size, hl⟩

theorem three_ends {w0 w : World} {B o : Nat} {x y z : Int} (h : w.cell? ⟨B, o, none⟩ = some (.int .i64 x) ∧ w.cell? ⟨B, o + 1, none⟩ = some (.int .i64 y) ∧ w.cell? ⟨B, o + 2, none⟩ = some (.int .i64 z) ∧ Below w0.heap.size w0 w ∧ w0.heap.size ≤ w.heap.size ∧ B < w0.heap.size) : Below w0.heap.size w0 w := h.2.2.2.1

set_option maxHeartbeats 2000000 in
theorem rents_some (A : List UInt8) (B o cap : Nat) (es : List (Int × Int × Int)) (w : World) (hE : EntAt w B o es) (hn : es.length ≤ 1000) (hA : A.length ≤ 1000) (hs : ∀ y ∈ flE es, 0 ≤ y ∧ y ≤ 4096) :
    Calls Try.prog 46 #[.string (tx A), .slice (some ⟨B, o, none⟩) es.length cap] w fun e w' => e = .returned (.string (tx (A ++ words4 (flE es)))) ∧ Below w.heap.size w w' := by
  have HS := Lib.hid hs
  clear hs
  obtain ⟨S, hS⟩ : ∃ S : Nat → ByteArray, ∀ k, S k = tx (A ++ words4 (flE (es.take k))) := ⟨_, fun _ => rfl⟩
  have hS0 : tx A = S 0 := by rw [hS]; simp [flE, words4]
  have HF : Hid (S es.length = tx (A ++ words4 (flE es))) := by
    show _ = _
    rw [hS, List.take_of_length_le (Nat.le_refl _)]
  have HSS := Lib.hid hS
  clear hS
  rw [hS0]
  clear hS0
  go_enter Try.func46, Try.ntmps46
  go_wp2_with fail
  go_loopw [0, 5] (fun s j wr => ∃ k : Nat, k ≤ es.length ∧ j = .int .i64 k ∧ s = .string (S k) ∧ Below w.heap.size w wr) (fun _ j _ => es.length - (intOf j).toNat)
  case atStart =>
    exact ⟨0, by omega, rfl, rfl, Below.refl _ _⟩
  case round =>
    obtain ⟨k, hk, rfl, rfl, B1⟩ := hrel
    by_cases hlt : k < es.length
    · obtain ⟨x, hx⟩ : ∃ x, es[k]? = some x := ⟨_, List.getElem?_eq_getElem hlt⟩
      have hE1 := hE.below B1 hE.1
      obtain ⟨c0, c1, c2⟩ := hE1.at_ k x hx
      have hB := hE1.1
      have hlen : (flE (es.take k)).length = 3 * k := by rw [flE_length, List.length_take, Nat.min_eq_left (by omega)]
      have hm : ∀ v ∈ [x.1, x.2.1, x.2.2], 0 ≤ v ∧ v ≤ 4096 := by
        intro v hv
        refine HS.out v ?_
        have e1 : flE es = flE (es.take (k + 1)) ++ flE (es.drop (k + 1)) := by rw [← flE_append, List.take_append_drop]
        rw [e1, flE_snoc hx]
        exact List.mem_append_left _ (List.mem_append_right _ hv)
      have m0 := hm x.1 (by simp)
      have m1 := hm x.2.1 (by simp)
      have m2 := hm x.2.2 (by simp)
      have e4 : (256 : Nat) ^ 4 = 4294967296 := by decide
      obtain ⟨S1, hS1⟩ : ∃ S1, S1 = S k ++ tx (leBytes 4 x.1.toNat) := ⟨_, rfl⟩
      obtain ⟨S2, hS2⟩ : ∃ S2, S2 = S1 ++ tx (leBytes 4 x.2.1.toNat) := ⟨_, rfl⟩
      have e3 : S2 ++ tx (leBytes 4 x.2.2.toNat) = S (k + 1) := by
        rw [hS2, hS1, HSS.out, HSS.out, tx_app, tx_app, tx_app, flE_snoc hx, words4_append]
        simp [words4]
      have z0 : (S k).size ≤ 100000 := by rw [HSS.out, tx_size]; simp [words4_length, hlen]; omega
      have z1 : S1.size ≤ 200000 := by
        have t1 := tx_size (leBytes 4 x.1.toNat)
        rw [leBytes_length] at t1
        rw [hS1, ByteArray.size_append, t1]; omega
      have z2 : S2.size ≤ 300000 := by
        have t1 := tx_size (leBytes 4 x.2.1.toNat)
        rw [leBytes_length] at t1
        rw [hS2, ByteArray.size_append, t1]; omega
      have HC0 : Hid (∀ W, Calls Try.prog 45 #[.string (S k), .int .i64 4, .int .i64 x.1] W fun e w' => e = .returned (.string S1) ∧ Below W.heap.size W w') := fun W => by
        have := rput_at (S k) 4 x.1 W 4 rfl (by omega) (by omega) m0.1 (by omega) (by omega)
        rw [← hS1] at this
        exact this
      have HC1 : Hid (∀ W, Calls Try.prog 45 #[.string S1, .int .i64 4, .int .i64 x.2.1] W fun e w' => e = .returned (.string S2) ∧ Below W.heap.size W w') := fun W => by
        have := rput_at S1 4 x.2.1 W 4 rfl (by omega) (by omega) m1.1 (by omega) (by omega)
        rw [← hS2] at this
        exact this
      have HC2 : Hid (∀ W, Calls Try.prog 45 #[.string S2, .int .i64 4, .int .i64 x.2.2] W fun e w' => e = .returned (.string (S (k + 1))) ∧ Below W.heap.size W w') := fun W => by
        have := rput_at S2 4 x.2.2 W 4 rfl (by omega) (by omega) m2.1 (by omega) (by omega)
        rw [e3] at this
        exact this
      clear hlen hm e3 hS1 hS2 z0 z1 z2 e4
      have hi0 : (0 : Int) ≤ (k : Int) := by omega
      have hi1 : (k : Int) < (es.length : Int) := by omega
      have hsz := B1.size
      have hBw := hE.1
      clear hE1
      go_wp2_with fail
      go_region_held3 (fun w' => w'.cell? ⟨B, o + k * 3, none⟩ = some (.int .i64 x.1) ∧ w'.cell? ⟨B, o + k * 3 + 1, none⟩ = some (.int .i64 x.2.1) ∧ w'.cell? ⟨B, o + k * 3 + 2, none⟩ = some (.int .i64 x.2.2) ∧ Below w.heap.size w w' ∧ w.heap.size ≤ w'.heap.size ∧ B < w.heap.size) (first | (exact three_keep ⟨c0, c1, c2, B1, hsz, hBw⟩ ((Below.refl _ _).drew)) | (exact three_keep (by assumption) (by assumption)))
        (first | (go_at_call_of 45 (S k); refine (HC0.out _).mono ?_; rintro e w' ⟨rfl, hb'⟩) | (go_at_call_of 45 (S1); refine (HC1.out _).mono ?_; rintro e w' ⟨rfl, hb'⟩) | (go_at_call_of 45 (S2); refine (HC2.out _).mono ?_; rintro e w' ⟨rfl, hb'⟩))
      have B6 := three_ends (w := w') (by assumption)
      go_wp2_with fail
      go_roundw
      case rel => exact ⟨k + 1, by omega, by go_num, rfl, B6⟩
      case measure => simp [intOf]; omega
    · obtain rfl : k = es.length := by omega
      go_wp2_with fail
      go_ret
      rw [HF.out]
      exact ⟨rfl, B1⟩

theorem rents_any (A : List UInt8) {a : Option Addr} (cap : Nat) {es : List (Int × Int × Int)} (w : World) (hE : EntS w a es) (hn : es.length ≤ 1000) (hA : A.length ≤ 1000) (hs : ∀ y ∈ flE es, 0 ≤ y ∧ y ≤ 4096) :
    Calls Try.prog 46 #[.string (tx A), .slice a es.length cap] w fun e w' => e = .returned (.string (tx (A ++ words4 (flE es)))) ∧ Below w.heap.size w w' := by
  rcases hE with rfl | ⟨B, o, rfl, h⟩
  · have := rents_none (tx A) a cap w
    simpa [flE, words4] using this
  · exact rents_some A B o cap es w h hn hA hs

end Go.Proofs.Ytdeemaafngehoaa
