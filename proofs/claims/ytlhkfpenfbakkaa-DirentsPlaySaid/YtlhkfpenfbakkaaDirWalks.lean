/- Walks: entries of a directory: why one may not be; its bytes; a block. -/
import Derived.Test.YtlhkfpenfbakkaaSlD
import Derived.Test.YtlhkfpenfbakkaaNamAny
import Derived.Test.YtlhkfpenfbakkaaWordsWalks3
import Derived.Deep.RegionHeld3
import Derived.IntWalk
set_option linter.unusedVariables false
set_option linter.unusedSimpArgs false
set_option maxRecDepth 100000
namespace Go.Proofs.Ytlhkfpenfbakkaa
open Go.RowKit Go.Joins

/-- why an entry may not be -/
def chkP (d : De) : Int := if d.nameOk then (if d.inoOk then 0 else 2) else 130

theorem emp_iff (s : ByteArray) : s.toList.isEmpty = decide (s.size = 0) := by
  rw [Lib.toList_data, Bool.eq_iff_iff, List.isEmpty_iff, decide_eq_true_iff, ← List.length_eq_zero_iff]
  simp

theorem check_any (d : De) (w : World) : Calls Try.prog 26 #[d.agg] w fun e w' => e = .returned (.int .i64 (chkP d)) ∧ Below w.heap.size w w' := by
  obtain ⟨nm, ino⟩ := d
  change Calls _ _ #[.agg #[.string nm, .int .i64 ino]] _ _
  have he := emp_iff nm
  have B0 : Below w.heap.size w (w.alloc (.cells #[.string nm, .int .i64 ino] 25)) := (Below.refl _ _).alloc (Nat.le_refl _) _
  by_cases h1 : nm.size = 0
  · rw [decide_eq_true h1] at he
    have HC := Lib.hid (show chkP ⟨nm, ino⟩ = 130 from if_neg (by simp [De.nameOk, nmOk, h1]))
    clear h1
    go_enter Try.func26, Try.ntmps26
    go_wp2_with fail
    go_ret
    exact ⟨by rw [HC.out]; rfl, B0⟩
  · rw [decide_eq_false h1] at he
    by_cases h2 : nm.size ≤ 32
    · have h2' : ¬ (32 : Int) < (nm.size : Int) := by omega
      have HA := Lib.hid (cany nm (w.alloc (.cells #[.string nm, .int .i64 ino] 25)) (by omega))
      have hok := nmOk_bad (bts nm)
      rw [bts_length, decide_eq_true (show 1 ≤ nm.size by omega), decide_eq_true h2, Bool.true_and, Bool.true_and] at hok
      cases hb : badP (bts nm) with
      | true =>
        rw [hb] at HA hok
        have HC := Lib.hid (show chkP ⟨nm, ino⟩ = 130 from if_neg (by rw [De.nameOk]; simp [De.bs, hok]))
        clear hok hb h1 h2
        go_enter Try.func26, Try.ntmps26
        go_wp2_with fail
        refine HA.out.mono ?_
        rintro e w1 ⟨rfl, hb1⟩
        have B1 := below_chain B0 hb1 B0.size
        go_wp2_with fail
        go_ret
        exact ⟨by rw [HC.out]; rfl, B1⟩
      | false =>
        rw [hb] at HA hok
        have hnm : (⟨nm, ino⟩ : De).nameOk = true := hok
        by_cases h3 : ino < 0
        · have HC := Lib.hid (show chkP ⟨nm, ino⟩ = 2 from by rw [chkP, if_pos hnm, if_neg (by rw [De.inoOk_iff]; simp; omega)])
          have HB0 := Lib.hid B0
          clear hok hb h1 h2 hnm
          go_enter Try.func26, Try.ntmps26
          go_wp2_with fail
          refine HA.out.mono ?_
          rintro e w1 ⟨rfl, hb1⟩
          have B1 := below_chain HB0.out hb1 HB0.out.size
          have c1 : w1.cell? ⟨w.heap.size, 1, none⟩ = some (.int .i64 ino) := by rw [hb1.cell (p := ⟨w.heap.size, 1, none⟩) (by simp)]; exact World.cell?_alloc_new _ _ _ 1
          go_wp2_with fail
          go_ret
          exact ⟨by rw [HC.out]; rfl, B1⟩
        · by_cases h4 : 4294967295 < ino
          · have HC := Lib.hid (show chkP ⟨nm, ino⟩ = 2 from by rw [chkP, if_pos hnm, if_neg (by rw [De.inoOk_iff]; simp; omega)])
            have HB0 := Lib.hid B0
            clear hok hb h1 h2 hnm
            go_enter Try.func26, Try.ntmps26
            go_wp2_with fail
            refine HA.out.mono ?_
            rintro e w1 ⟨rfl, hb1⟩
            have B1 := below_chain HB0.out hb1 HB0.out.size
            have c1 : w1.cell? ⟨w.heap.size, 1, none⟩ = some (.int .i64 ino) := by rw [hb1.cell (p := ⟨w.heap.size, 1, none⟩) (by simp)]; exact World.cell?_alloc_new _ _ _ 1
            go_wp2_with fail
            go_ret
            exact ⟨by rw [HC.out]; rfl, B1⟩
          · have HC := Lib.hid (show chkP ⟨nm, ino⟩ = 0 from by rw [chkP, if_pos hnm, if_pos (De.inoOk_iff.2 ⟨by simp; omega, by simp; omega⟩)])
            have HB0 := Lib.hid B0
            clear hok hb h1 h2 hnm
            go_enter Try.func26, Try.ntmps26
            go_wp2_with fail
            refine HA.out.mono ?_
            rintro e w1 ⟨rfl, hb1⟩
            have B1 := below_chain HB0.out hb1 HB0.out.size
            have c1 : w1.cell? ⟨w.heap.size, 1, none⟩ = some (.int .i64 ino) := by rw [hb1.cell (p := ⟨w.heap.size, 1, none⟩) (by simp)]; exact World.cell?_alloc_new _ _ _ 1
            go_wp2_with fail
            go_ret
            exact ⟨by rw [HC.out]; rfl, B1⟩
    · have h2' : (32 : Int) < (nm.size : Int) := by omega
      have HC := Lib.hid (show chkP ⟨nm, ino⟩ = 130 from if_neg (by rw [De.nameOk, nmOk_bad]; simp [De.bs]; omega))
      clear h1 h2
      go_enter Try.func26, Try.ntmps26
      go_wp2_with fail
      go_ret
      exact ⟨by rw [HC.out]; rfl, B0⟩

theorem size_any (d : De) (w : World) (hs : d.nm.size ≤ 1000000) : Calls Try.prog 28 #[d.agg] w fun e w' => e = .returned (.int .i64 (d.sz : Nat)) ∧ Below w.heap.size w w' := by
  obtain ⟨nm, ino⟩ := d
  change Calls _ _ #[.agg #[.string nm, .int .i64 ino]] _ _
  have B0 : Below w.heap.size w (w.alloc (.cells #[.string nm, .int .i64 ino] 25)) := (Below.refl _ _).alloc (Nat.le_refl _) _
  have hs' : (nm.size : Int) ≤ 1000000 := by simp at hs; omega
  go_enter Try.func28, Try.ntmps28
  go_wp2_with fail
  go_ret
  exact ⟨by simp [De.sz], B0⟩

/-- an entry's bytes, as a text -/
theorem ent_text (d : De) (h1 : d.nameOk = true) (h2 : d.inoOk = true) : putIOk (tx [UInt8.ofNat d.nm.size, 0, 0, 0, 0]) 1 4 d.ino = true ∧ putIV (tx [UInt8.ofNat d.nm.size, 0, 0, 0, 0]) 1 4 d.ino ++ d.nm = tx (entB d) := by
  have hi := De.inoOk_iff.1 h2
  have := put_zeros [UInt8.ofNat d.nm.size] 4 0 d.ino (by omega) hi.1 (by omega)
  simp only [List.replicate, Nat.add_zero, List.append_nil] at this
  refine ⟨this.1, ?_⟩
  have e := this.2
  rw [show (tx [UInt8.ofNat d.nm.size, 0, 0, 0, 0]) = tx ([UInt8.ofNat d.nm.size] ++ [0, 0, 0, 0]) from rfl]
  show putIV _ (([UInt8.ofNat d.nm.size].length : Nat) : Int) ((4 : Nat) : Int) d.ino ++ d.nm = _
  rw [e, ← tx_eq d.nm, tx_app]
  rfl

set_option maxHeartbeats 1000000 in
theorem bytes_any (d : De) (w : World) (h1 : d.nameOk = true) (h2 : d.inoOk = true) : Calls Try.prog 29 #[d.agg] w fun e w' => e = .returned (.string (tx (entB d))) ∧ Below w.heap.size w w' := by
  obtain ⟨e1, e2⟩ := ent_text d h1 h2
  obtain ⟨q1, q2, q3⟩ := ofNat_size h1
  have hi := De.inoOk_iff.1 h2
  obtain ⟨nm, ino⟩ := d
  change Calls _ _ #[.agg #[.string nm, .int .i64 ino]] _ _
  simp only at e1 e2 q1 q2 q3 hi
  have hw5 : IntKind.u8.wrap (nm.size : Int) = (nm.size : Int) := by
    unfold IntKind.wrap
    simp [IntKind.bits, IntKind.signed]
    omega
  have B0 : Below w.heap.size w (w.alloc (.cells #[.string nm, .int .i64 ino] 25)) := (Below.refl _ _).alloc (Nat.le_refl _) _
  have HP := Lib.hid (fun W => putint_any (tx [UInt8.ofNat nm.size, 0, 0, 0, 0]) 1 4 ino W (by rw [tx_size]; unfold maxLen; simp) (by omega))
  rw [e1] at HP
  have hq3 : (nm.size : Int) ≤ 32 := by omega
  have hT : ¬ maxLen < (putIV (tx [UInt8.ofNat nm.size, 0, 0, 0, 0]) 1 4 ino).size + nm.size := by
    have := congrArg ByteArray.size e2
    rw [ByteArray.size_append, tx_size (entB ⟨nm, ino⟩), entB_len] at this
    rw [this]
    simp only [De.sz]
    unfold maxLen
    omega
  have HQ := Lib.hid (And.intro e2 q1)
  have hi1 := hi.1
  have hi2 := hi.2
  have hcv : (convert 43 9 (.slice (some ⟨w.heap.size + 1, 0, none⟩) 5 5)).run Try.prog ((w.alloc (.cells #[.string nm, .int .i64 ino] 25)).alloc (.cells #[.int .u8 nm.size, .int .u8 0, .int .u8 0, .int .u8 0, .int .u8 0] 5)) = .ok (.string (tx [UInt8.ofNat nm.size, 0, 0, 0, 0])) ((w.alloc (.cells #[.string nm, .int .i64 ino] 25)).alloc (.cells #[.int .u8 nm.size, .int .u8 0, .int .u8 0, .int .u8 0, .int .u8 0] 5)) := by
    refine conv_string _ _ _ 5 (w.heap.size + 1) 5 5 [UInt8.ofNat nm.size, 0, 0, 0, 0] Try.underlying43 Try.underlying5 Try.underlying9 ?_ rfl
    have := rowAt_alloc (w.alloc (.cells #[.string nm, .int .i64 ino] 25)) #[.int .u8 nm.size, .int .u8 0, .int .u8 0, .int .u8 0, .int .u8 0] 5
    rw [World.size_alloc] at this
    have e : bcells [UInt8.ofNat nm.size, 0, 0, 0, 0] = [.int .u8 nm.size, .int .u8 0, .int .u8 0, .int .u8 0, .int .u8 0] := by
      simp only [bcells, List.map_cons, List.map_nil, q1]
      rfl
    rw [e]
    exact this
  have B1 := B0.alloc B0.size (.cells #[.int .u8 nm.size, .int .u8 0, .int .u8 0, .int .u8 0, .int .u8 0] 5)
  clear h1 h2 e1 e2 q1 q2 hi
  generalize putIV (tx [UInt8.ofNat nm.size, 0, 0, 0, 0]) 1 4 ino = T at *
  go_enter Try.func29, Try.ntmps29
  go_wp2_with fail
  refine (HP.out _).mono ?_
  rintro e w1 ⟨rfl, hb1⟩
  have B2 := below_chain B1 hb1 B1.size
  have c1 : w1.cell? ⟨w.heap.size, 0, none⟩ = some (.string nm) := by
    rw [hb1.cell (p := ⟨w.heap.size, 0, none⟩) (by simp; omega), World.cell?_alloc_old _ _ _ (by simp)]
    exact World.cell?_alloc_new _ _ _ 0
  go_wp2_with fail
  go_ret
  exact ⟨by rw [← HQ.out.1]; rfl, B2⟩

theorem block_any (s : ByteArray) (w : World) (hs : s.size ≤ 128) : Calls Try.prog 30 #[.string s] w fun e w' => e = .returned (.string (s ++ tx (List.replicate (128 - s.size) 0))) ∧ Below w.heap.size w w' := by
  have HR := Lib.hid (Try.strings_Repeat ⟨#[0]⟩ (128 - s.size) w (by omega) (by show 1 * _ ≤ _; omega))
  have hz : Lib.repeatL [0] (128 - s.size) = List.replicate (128 - s.size) (0 : UInt8) := by
    generalize 128 - s.size = n
    induction n with
    | zero => rfl
    | succ n ih => rw [Lib.repeatL, ih]; rfl
  have hs' : (s.size : Int) ≤ 128 := by omega
  have hc : ((128 - s.size : Nat) : Int) = 128 - (s.size : Int) := by omega
  rw [hc] at HR
  rw [show (⟨#[0]⟩ : ByteArray).data.toList = [0] from rfl, hz] at HR
  clear hz hc
  go_enter Try.func30, Try.ntmps30
  go_wp2_with fail
  refine HR.out.mono ?_
  rintro e w1 ⟨rfl, hb1⟩
  go_wp2_with fail
  go_ret
  exact ⟨rfl, hb1⟩

end Go.Proofs.Ytlhkfpenfbakkaa
