/- Walks: an inode's bytes. -/
import Derived.Test.YtdeemaafngehoaaInoWalks
import Derived.Test.YtdeemaafngehoaaShelf
import Derived.BigQuiet
import Derived.Deep.QuietTactic
set_option linter.unusedVariables false
set_option linter.unusedSimpArgs false
set_option maxRecDepth 100000
namespace Go.Proofs.Ytdeemaafngehoaa
open Go.RowKit Go.Joins

theorem one_any (p : Bool) (w : World) : Calls Try.prog 42 #[.bool p] w fun e w' => e = .returned (.int .i64 (pinI p)) ∧ w = w' := by
  cases p
  all_goals
    go_enter Try.func42, Try.ntmps42
    go_wp2
    go_ret
    exact ⟨rfl, rfl⟩

theorem EntAt.at_ {w : World} {B o : Nat} {es : List (Int × Int × Int)} (h : EntAt w B o es) (k : Nat) (x : Int × Int × Int) (hx : es[k]? = some x) :
    w.cell? ⟨B, o + k * 3, none⟩ = some (.int .i64 x.1) ∧ w.cell? ⟨B, o + k * 3 + 1, none⟩ = some (.int .i64 x.2.1) ∧ w.cell? ⟨B, o + k * 3 + 2, none⟩ = some (.int .i64 x.2.2) := by
  obtain ⟨hk, e⟩ := List.getElem?_eq_some_iff.1 hx
  have := h.2 k hk
  rw [e] at this
  exact this

theorem flE_snoc {es : List (Int × Int × Int)} {k : Nat} {x : Int × Int × Int} (hx : es[k]? = some x) : flE (es.take (k + 1)) = flE (es.take k) ++ [x.1, x.2.1, x.2.2] := by
  obtain ⟨hk, e⟩ := List.getElem?_eq_some_iff.1 hx
  rw [List.take_succ_eq_append_getElem hk, flE_append, e]
  rfl

/-- one number more behind the others, in bytes 0 -/
theorem word_step (A : List UInt8) (z : Nat) (v : Int) (h0 : 0 ≤ v) (h1 : v ≤ 4096) (h4 : 4 ≤ z) :
    putIOk (tx (A ++ List.replicate z 0)) (A.length : Nat) 4 v = true ∧ putIV (tx (A ++ List.replicate z 0)) (A.length : Nat) 4 v = tx ((A ++ words4 [v]) ++ List.replicate (z - 4) 0) := by
  have e4 : (256 : Nat) ^ 4 = 4294967296 := by decide
  have := put_zeros A 4 (z - 4) v (by omega) h0 (by omega)
  rw [show 4 + (z - 4) = z by omega] at this
  simpa [words4] using this

theorem putEnt_none (s : ByteArray) (at_ : Int) (a : Option Addr) (cap : Nat) (w : World) :
    Calls Try.prog 44 #[.string s, .int .i64 at_, .slice a 0 cap] w fun e w' => e = .returned (.string s) ∧ Below w.heap.size w w' := by
  go_enter Try.func44, Try.ntmps44
  go_wp2_with fail
  refine wp_loop_rounds 1 ?_
  rw [rounds_succ]
  go_wp2_with fail
  go_ret
  exact ⟨rfl, Below.refl _ _⟩

theorem three_index (x y z : Int) : (∀ w, (Instr.index 118 (.agg #[.int .i64 x, .int .i64 y, .int .i64 z]) (.int .i64 0)).run Try.prog w = .ok (.int .i64 x) w) ∧ (∀ w, (Instr.index 118 (.agg #[.int .i64 x, .int .i64 y, .int .i64 z]) (.int .i64 1)).run Try.prog w = .ok (.int .i64 y) w) ∧ (∀ w, (Instr.index 118 (.agg #[.int .i64 x, .int .i64 y, .int .i64 z]) (.int .i64 2)).run Try.prog w = .ok (.int .i64 z) w) :=
  ⟨fun _ => by kernel_rfl, fun _ => by kernel_rfl, fun _ => by kernel_rfl⟩

set_option maxHeartbeats 2000000 in
theorem putEnt_some (A : List UInt8) (z : Nat) (B o cap : Nat) (es : List (Int × Int × Int)) (w : World) (hE : EntAt w B o es) (hn : es.length ≤ 1000) (hA : A.length ≤ 1000) (hz : 12 * es.length ≤ z) (hz1 : z ≤ 100000) (hs : ∀ y ∈ flE es, 0 ≤ y ∧ y ≤ 4096) :
    Calls Try.prog 44 #[.string (tx (A ++ List.replicate z 0)), .int .i64 (A.length : Nat), .slice (some ⟨B, o, none⟩) es.length cap] w fun e w' => e = .returned (.string (tx (A ++ words4 (flE es) ++ List.replicate (z - 12 * es.length) 0))) ∧ Below w.heap.size w w' := by
  have HS := Lib.hid hs
  clear hs
  obtain ⟨S, hS⟩ : ∃ S : Nat → ByteArray, ∀ k, S k = tx (A ++ words4 (flE (es.take k)) ++ List.replicate (z - 12 * k) 0) := ⟨_, fun _ => rfl⟩
  have hS0 : tx (A ++ List.replicate z 0) = S 0 := by rw [hS]; simp [flE, words4]
  have HF : Hid (S es.length = tx (A ++ words4 (flE es) ++ List.replicate (z - 12 * es.length) 0)) := by
    show _ = _
    rw [hS, List.take_of_length_le (Nat.le_refl _)]
  have HSS := Lib.hid hS
  clear hS
  rw [hS0]
  clear hS0
  go_enter Try.func44, Try.ntmps44
  go_wp2_with fail
  go_loopw [0, 1, 15] (fun s a j wr => ∃ k : Nat, k ≤ es.length ∧ j = .int .i64 k ∧ s = .string (S k) ∧ a = .int .i64 ((A.length : Int) + 12 * k) ∧ Below w.heap.size w wr) (fun _ _ j _ => es.length - (intOf j).toNat)
  case atStart =>
    exact ⟨0, by omega, rfl, rfl, by simp, Below.refl _ _⟩
  case round =>
    obtain ⟨k, hk, rfl, rfl, rfl, B1⟩ := hrel
    by_cases hlt : k < es.length
    · obtain ⟨x, hx⟩ : ∃ x, es[k]? = some x := ⟨_, List.getElem?_eq_getElem hlt⟩
      have hE1 := hE.below B1 hE.1
      obtain ⟨c0, c1, c2⟩ := hE1.at_ k x hx
      have hB := hE1.1
      -- the three steps
      have hlen : (flE (es.take k)).length = 3 * k := by rw [flE_length, List.length_take, Nat.min_eq_left (by omega)]
      have hm : ∀ v ∈ [x.1, x.2.1, x.2.2], 0 ≤ v ∧ v ≤ 4096 := by
        intro v hv
        refine HS.out v ?_
        have e1 : flE es = flE (es.take (k + 1)) ++ flE (es.drop (k + 1)) := by rw [← flE_append, List.take_append_drop]
        rw [e1, flE_snoc hx]
        exact List.mem_append_left _ (List.mem_append_right _ hv)
      have m0 := hm x.1 (by simp)
      have m1 := hm x.2.1 (by simp)
      have m2 := hm x.2.2 (by simp)
      obtain ⟨S1, hS1⟩ : ∃ S1, S1 = tx (A ++ words4 (flE (es.take k)) ++ words4 [x.1] ++ List.replicate (z - 12 * k - 4) 0) := ⟨_, rfl⟩
      obtain ⟨S2, hS2⟩ : ∃ S2, S2 = tx (A ++ words4 (flE (es.take k)) ++ words4 [x.1] ++ words4 [x.2.1] ++ List.replicate (z - 12 * k - 4 - 4) 0) := ⟨_, rfl⟩
      have w0 := word_step (A ++ words4 (flE (es.take k))) (z - 12 * k) x.1 m0.1 m0.2 (by omega)
      have w1 := word_step (A ++ words4 (flE (es.take k)) ++ words4 [x.1]) (z - 12 * k - 4) x.2.1 m1.1 m1.2 (by omega)
      have w2 := word_step (A ++ words4 (flE (es.take k)) ++ words4 [x.1] ++ words4 [x.2.1]) (z - 12 * k - 4 - 4) x.2.2 m2.1 m2.2 (by omega)
      have l0 : ((A ++ words4 (flE (es.take k))).length : Int) = (A.length : Int) + 12 * k := by simp [words4_length, hlen]; omega
      have l1 : ((A ++ words4 (flE (es.take k)) ++ words4 [x.1]).length : Int) = (A.length : Int) + 12 * k + 4 := by simp [words4_length, hlen]; omega
      have l2 : ((A ++ words4 (flE (es.take k)) ++ words4 [x.1] ++ words4 [x.2.1]).length : Int) = (A.length : Int) + 12 * k + 4 + 4 := by simp [words4_length, hlen]; omega
      rw [← HSS.out k, l0, ← hS1] at w0
      rw [← hS1, l1, ← hS2] at w1
      have e3 : tx (A ++ words4 (flE (es.take k)) ++ words4 [x.1] ++ words4 [x.2.1] ++ words4 [x.2.2] ++ List.replicate (z - 12 * k - 4 - 4 - 4) 0) = S (k + 1) := by
        rw [HSS.out, flE_snoc hx, words4_append]
        congr 1
        rw [show z - 12 * (k + 1) = z - 12 * k - 4 - 4 - 4 by omega]
        simp [words4]
      rw [← hS2, l2, e3] at w2
      have z0 : (S k).size ≤ maxLen := by rw [HSS.out, tx_size]; simp [words4_length, hlen]; unfold maxLen; omega
      have z1 : S1.size ≤ maxLen := by rw [hS1, tx_size]; simp [words4_length, hlen]; unfold maxLen; omega
      have z2 : S2.size ≤ maxLen := by rw [hS2, tx_size]; simp [words4_length, hlen]; unfold maxLen; omega
      have HC0 : Hid (∀ W, Calls Try.prog 43 #[.string (S k), .int .i64 ((A.length : Int) + 12 * k), .int .i64 4, .int .i64 x.1] W fun e w' => e = .returned (.tuple #[.string S1, .bool true]) ∧ Below W.heap.size W w') := fun W => by
        have := putint_any (S k) ((A.length : Int) + 12 * k) 4 x.1 W z0 (by omega)
        rw [w0.1, w0.2] at this
        exact this
      have HC1 : Hid (∀ W, Calls Try.prog 43 #[.string S1, .int .i64 ((A.length : Int) + 12 * k + 4), .int .i64 4, .int .i64 x.2.1] W fun e w' => e = .returned (.tuple #[.string S2, .bool true]) ∧ Below W.heap.size W w') := fun W => by
        have := putint_any S1 ((A.length : Int) + 12 * k + 4) 4 x.2.1 W z1 (by omega)
        rw [w1.1, w1.2] at this
        exact this
      have HC2 : Hid (∀ W, Calls Try.prog 43 #[.string S2, .int .i64 ((A.length : Int) + 12 * k + 4 + 4), .int .i64 4, .int .i64 x.2.2] W fun e w' => e = .returned (.tuple #[.string (S (k + 1)), .bool true]) ∧ Below W.heap.size W w') := fun W => by
        have := putint_any S2 ((A.length : Int) + 12 * k + 4 + 4) 4 x.2.2 W z2 (by omega)
        rw [w2.1, w2.2] at this
        exact this
      clear w0 w1 w2 l0 l1 l2 hlen hm e3 hS1 hS2 z0 z1 z2
      obtain ⟨i0, i1, i2⟩ := three_index x.1 x.2.1 x.2.2
      go_wp2_with fail
      refine wp_loop_rounds 4 ?_
      rw [rounds_succ]
      go_wp2_with fail
      refine (HC0.out _).mono ?_
      rintro e w4 ⟨rfl, hb4⟩
      have B4 := below_chain (B1.alloc B1.size _) hb4 (B1.alloc B1.size _).size
      go_wp2_with fail
      rw [rounds_succ]
      go_wp2_with fail
      refine (HC1.out _).mono ?_
      rintro e w5 ⟨rfl, hb5⟩
      have B5 := below_chain B4 hb5 B4.size
      go_wp2_with fail
      rw [rounds_succ]
      go_wp2_with fail
      refine (HC2.out _).mono ?_
      rintro e w6 ⟨rfl, hb6⟩
      have B6 := below_chain B5 hb6 B5.size
      go_wp2_with fail
      rw [rounds_succ]
      go_wp2_with fail
      go_roundw
      case rel => exact ⟨k + 1, by omega, by go_num, rfl, by go_num, B6⟩
      case measure => simp [intOf]; omega
    · obtain rfl : k = es.length := by omega
      go_wp2_with fail
      go_ret
      rw [HF.out]
      exact ⟨rfl, B1⟩

theorem putEnt_any (A : List UInt8) (z : Nat) {a : Option Addr} (cap : Nat) {es : List (Int × Int × Int)} (w : World) (hE : EntS w a es) (hn : es.length ≤ 1000) (hA : A.length ≤ 1000) (hz : 12 * es.length ≤ z) (hz1 : z ≤ 100000) (hs : ∀ y ∈ flE es, 0 ≤ y ∧ y ≤ 4096) :
    Calls Try.prog 44 #[.string (tx (A ++ List.replicate z 0)), .int .i64 (A.length : Nat), .slice a es.length cap] w fun e w' => e = .returned (.string (tx (A ++ words4 (flE es) ++ List.replicate (z - 12 * es.length) 0))) ∧ Below w.heap.size w w' := by
  rcases hE with rfl | ⟨B, o, rfl, h⟩
  · have := putEnt_none (tx (A ++ List.replicate z 0)) (A.length : Nat) a cap w
    simpa [flE, words4] using this
  · exact putEnt_some A z B o cap es w h hn hA hz hz1 hs

end Go.Proofs.Ytdeemaafngehoaa
