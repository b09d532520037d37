/- Walks: the entries' laws' own functions: Same, great, alive. -/
import Derived.Test.YtlhkfpenfbakkaaDirWalks6
set_option linter.unusedVariables false
set_option linter.unusedSimpArgs false
set_option maxRecDepth 100000
namespace Go.Proofs.Ytlhkfpenfbakkaa
open Go.RowKit Go.Joins

set_option maxHeartbeats 1000000 in
theorem same12 (a b : Option Addr) (ca cb : Nat) (l : List De) (w : World) (hl : l.length ≤ 100000) (hA : ValD w a l) (hB : ValD w b l) :
    Calls Try.prog 12 #[.slice a l.length ca, .slice b l.length cb] w fun e w' => e = .returned (.bool true) ∧ Below w.heap.size w w' := by
  have HA := Lib.hid hA
  have HB := Lib.hid hB
  have hl' : (l.length : Int) ≤ 100000 := by omega
  clear hA hB
  go_enter Try.func12, Try.ntmps12
  go_wp2_with fail
  go_loopw [5] (fun jj wr => ∃ k : Nat, k ≤ l.length ∧ jj = .int .i64 k ∧ Below w.heap.size w wr) (fun jj _ => l.length - (intOf jj).toNat)
  case atStart => exact ⟨0, by omega, rfl, Below.refl _ _⟩
  case round =>
    obtain ⟨k, hk, rfl, B⟩ := hrel
    by_cases hlt : k < l.length
    · obtain ⟨x, hx⟩ : ∃ x, l[k]? = some x := ⟨_, List.getElem?_eq_getElem hlt⟩
      obtain ⟨P, o, rfl, hP, c0, c1⟩ := de_cells (HA.out.below B (Nat.le_refl _)) hx
      obtain ⟨Q, p, rfl, hQ, d0, d1⟩ := de_cells (HB.out.below B (Nat.le_refl _)) hx
      have i1 : (k : Int) < (l.length : Int) := by omega
      have i2 : (0 : Int) ≤ (k : Int) := by omega
      clear hx
      go_wp2_with fail
      go_quiet (fail)
      have B2 := below_drewN B nq
      clear c0 c1 d0 d1
      go_wp2_with fail
      go_roundw
      case rel => exact ⟨k + 1, by omega, by go_num, B2⟩
      case measure => simp [intOf]; omega
    · obtain rfl : k = l.length := by omega
      have hnl : ¬ ((l.length : Int) < (l.length : Int)) := by omega
      go_wp2_with fail
      go_ret
      exact ⟨rfl, B⟩

def GreatP (l : List De) (e : Ending) : Prop := ∃ b, e = .returned (.bool b) ∧ (b = false → l.length ≤ 100)

set_option maxHeartbeats 1000000 in
theorem great12 (a : Option Addr) (ca : Nat) (l : List De) (w : World) (hl : l.length ≤ maxLen) (hA : ValD w a l) (hs : ∀ d ∈ l, d.nm.size ≤ maxLen) :
    Calls Try.prog 9 #[.slice a l.length ca] w fun e w' => GreatP l e ∧ w = w' := by
  have HA := Lib.hid hA
  have HS := Lib.hid hs
  have hl' : (l.length : Int) ≤ 9223372036854775807 := by unfold maxLen at hl; omega
  clear hA hs
  go_enter Try.func9, Try.ntmps9
  go_wp2_with fail
  go_loopw [3, 4] (fun nn jj wr => ∃ (k : Nat) (z : Int), k ≤ l.length ∧ jj = .int .i64 k ∧ nn = .int .i64 z ∧ 0 ≤ z ∧ z ≤ 3000 ∧ wr = w) (fun _ jj _ => l.length - (intOf jj).toNat)
  case atStart => exact ⟨0, 0, by omega, rfl, rfl, by omega, by omega, rfl⟩
  case round =>
    obtain ⟨k, z, hk, rfl, rfl, z0, z1, rfl⟩ := hrel
    by_cases hlt : k < l.length
    · obtain ⟨x, hx⟩ : ∃ x, l[k]? = some x := ⟨_, List.getElem?_eq_getElem hlt⟩
      obtain ⟨P, o, rfl, hP, c0, c1⟩ := de_cells HA.out hx
      have i1 : (k : Int) < (l.length : Int) := by omega
      have i2 : (0 : Int) ≤ (k : Int) := by omega
      have hsx := HS.out x (List.mem_of_getElem? hx)
      have hs1 : (x.nm.size : Int) ≤ 9223372036854775807 := by unfold maxLen at hsx; omega
      clear hx hsx
      by_cases hm : (x.nm.size : Int) ≤ 1000000
      · have hmin : min (x.nm.size : Int) 1000000 = (x.nm.size : Int) := by omega
        by_cases hg : 3000 < z + 1 + (x.nm.size : Int)
        · go_wp2_with fail
          go_ret
          exact ⟨⟨true, rfl, fun h => by cases h⟩, rfl⟩
        · go_wp2_with fail
          go_roundw
          case rel => exact ⟨k + 1, z + 1 + (x.nm.size : Int), by omega, by go_num, rfl, by omega, by omega, trivial⟩
          case measure => simp [intOf]; omega
      · have hmin : min (x.nm.size : Int) 1000000 = 1000000 := by omega
        have hg : 3000 < z + 1 + (1000000 : Int) := by omega
        go_wp2_with fail
        go_ret
        exact ⟨⟨true, rfl, fun h => by cases h⟩, rfl⟩
    · obtain rfl : k = l.length := by omega
      have hnl : ¬ ((l.length : Int) < (l.length : Int)) := by omega
      by_cases h100 : l.length ≤ 100
      · have q : ¬ (100 : Int) < (l.length : Int) := by omega
        go_wp2_with fail
        go_ret
        exact ⟨⟨_, rfl, fun _ => h100⟩, rfl⟩
      · have q : (100 : Int) < (l.length : Int) := by omega
        go_wp2_with fail
        go_ret
        exact ⟨⟨_, rfl, fun h => by simp at h⟩, rfl⟩

/-! ### the chapter's examples -/

def ex12 : List De := [⟨⟨#[97]⟩, 5⟩, ⟨⟨#[98, 99]⟩, 258⟩]
theorem ex_ok : packE ex12 = 0 := by decide +kernel
theorem ex_parse : parseP (packB ex12) = some ex12 := parse_pack ex_ok
theorem ex_rest : packE [⟨⟨#[98, 99]⟩, 258⟩] = 0 := by decide +kernel
theorem ex_dup : packE (ex12 ++ [⟨⟨#[97]⟩, 9⟩]) = 211 := by decide +kernel
theorem ex_find1 : findP (packB ex12) ⟨#[98, 99]⟩ = (258, true) := by
  rw [findP, ex_parse]; decide +kernel
theorem ex_find2 : findP (packB ex12) ⟨#[98]⟩ = (0, false) := by
  rw [findP, ex_parse]; decide +kernel
theorem ex_remove : removeP (packB ex12) ⟨#[97]⟩ = (packB [⟨⟨#[98, 99]⟩, 258⟩], true) := by
  rw [removeP, ex_parse]
  rfl
theorem ex_insert : (insertP (packB ex12) ⟨⟨#[97]⟩, 9⟩).2 = 211 := by
  rw [insertP, ex_parse]
  exact ex_dup
theorem ex_room : roomP (packB ex12) = 115 := by
  rw [roomP, ex_parse]
  decide +kernel
theorem ex_head : ((packB ex12).extract 0 14).toList = [1, 5, 0, 0, 0, 97, 2, 2, 1, 0, 0, 98, 99, 0] := by decide +kernel
theorem ex_first : (packB [⟨⟨#[98, 99]⟩, 258⟩]).data.toList[0]? = some 2 := by decide +kernel

theorem ex_zeros : parseP (zerosB 128) = some [] := by
  have : zerosB 128 = packB [] := by decide +kernel
  rw [this]
  exact parse_pack (by decide +kernel)

theorem info_u8d : (Try.prog.info? 5).map (fun i => (i.zero, i.size, i.bytes)) = some (some (.int .u8 0), 1, 1) := by kernel_rfl

set_option maxHeartbeats 4000000 in
theorem alive12 (w : World) : Calls Try.prog 13 #[] w fun e w' => e = .returned (.bool true) ∧ Below w.heap.size w w' := by
  have hbA : Below w.heap.size w (w.alloc (.cells #[.string ⟨#[97]⟩, .int .i64 5, .string ⟨#[98, 99]⟩, .int .i64 258] 25)) := (Below.refl _ _).alloc (Nat.le_refl _) _
  have hr := rowAt_alloc w #[.string ⟨#[97]⟩, .int .i64 5, .string ⟨#[98, 99]⟩, .int .i64 258] 25
  have hV : ValD (w.alloc (.cells #[.string ⟨#[97]⟩, .int .i64 5, .string ⟨#[98, 99]⟩, .int .i64 258] 25)) (some ⟨w.heap.size, 0, none⟩) ex12 := valD_row (l := ex12) (rest := []) hr
  have HP := pack_any (some ⟨w.heap.size, 0, none⟩) 2 ex12 _ hV (by decide) (by decide)
  unfold PackP at HP
  rw [ex_ok] at HP
  have HPk := Lib.hid HP
  have HB := Lib.hid hbA
  have hps : (packB ex12).size = 128 := packB_size ex_ok
  have HF1 := Lib.hid (fun W => by have := find_any (packB ex12) ⟨#[98, 99]⟩ W (by omega); rw [ex_find1] at this; exact this)
  have HF2 := Lib.hid (fun W => by have := find_any (packB ex12) ⟨#[98]⟩ W (by omega); rw [ex_find2] at this; exact this)
  have HRm := Lib.hid (fun W => by have := remove_any (packB ex12) ⟨#[97]⟩ W (by omega); rw [ex_remove] at this; exact this)
  have HIn := Lib.hid (fun W => by have := insert_any (packB ex12) ⟨⟨#[97]⟩, 9⟩ W (by omega); rw [ex_insert] at this; exact this)
  have HRo := Lib.hid (fun W => by have := room_any (packB ex12) W (by omega); rw [ex_room] at this; exact this)
  have hhd := ex_head
  have hf0 := ex_first
  have hqs : (packB [⟨⟨#[98, 99]⟩, 258⟩]).size = 128 := packB_size ex_rest
  clear hbA hr hV HP
  generalize (insertP (packB ex12) ⟨⟨#[97]⟩, 9⟩).1 = ins at *
  have hix : ∀ W, (Instr.index 9 (.string (packB [⟨⟨#[98, 99]⟩, 258⟩])) (.int .i64 0)).run Try.prog W = .ok (.int .u8 2) W := by
    intro W
    have h0 : (0 : Nat) < (packB [⟨⟨#[98, 99]⟩, 258⟩]).size := by omega
    have h1 : ((packB [⟨⟨#[98, 99]⟩, 258⟩])[0]'h0) = 2 := by
      have := Lib.data_getElem? (packB [⟨⟨#[98, 99]⟩, 258⟩]) 0 h0
      rw [hf0] at this
      exact (Option.some.inj this).symm
    simp [Instr.index, go_sem, Try.underlying9, hqs, h1, asIntOf]
  clear hf0
  generalize packB ex12 = T at *
  generalize packB [⟨⟨#[98, 99]⟩, 258⟩] = U at *
  have hps' : (T.size : Int) = 128 := by omega
  have hqs' : (U.size : Int) = 128 := by omega
  go_enter Try.func13, Try.ntmps13
  go_wp2_with fail
  refine HPk.out.mono ?_
  rintro e w1 ⟨rfl, hb1⟩
  have B1 := below_chain HB.out hb1 HB.out.size
  clear hb1
  go_wp2_with fail
  refine (HF1.out _).mono ?_
  rintro e w2 ⟨rfl, hb2⟩
  have B2 := below_chain B1 hb2 B1.size
  clear hb2 B1
  go_wp2_with fail
  refine (HF2.out _).mono ?_
  rintro e w3 ⟨rfl, hb3⟩
  have B3 := below_chain B2 hb3 B2.size
  clear hb3 B2
  go_wp2_with fail
  refine (HRm.out _).mono ?_
  rintro e w4 ⟨rfl, hb4⟩
  have B4 := below_chain B3 hb4 B3.size
  clear hb4 B3
  go_wp2_with fail
  refine (HIn.out _).mono ?_
  rintro e w5 ⟨rfl, hb5⟩
  have B5 := below_chain B4 hb5 B4.size
  clear hb5 B4
  obtain ⟨i0, hi, hz0, hz1, hz2⟩ := info_parts info_u8d
  obtain ⟨W6, hmk, hbm, hrm⟩ := make_bytes (P := Try.prog) w5 43 5 i0 Try.underlying43 hi hz0 hz1 hz2 128 (by omega)
  have hmk : (Instr.makeSlice 43 (.int .i64 128) (.int .i64 128)).run Try.prog w5 = .ok (.slice (some ⟨w5.heap.size, 0, none⟩) 128 128) W6 := hmk
  obtain ⟨Z, hZ⟩ : ∃ Z, Z = zerosB 128 := ⟨_, rfl⟩
  have hcv : (convert 43 9 (.slice (some ⟨w5.heap.size, 0, none⟩) 128 128)).run Try.prog W6 = .ok (.string Z) W6 := by
    rw [hZ]
    exact conv_string _ _ _ 5 w5.heap.size 128 128 (List.replicate 128 0) Try.underlying43 Try.underlying5 Try.underlying9 hrm (by simp)
  have B6 := below_chain B5 hbm B5.size
  have HZ := Lib.hid (parse_any Z W6 (by rw [hZ, zerosB_size]; omega))
  unfold ParseP at HZ
  rw [show parseP Z = some [] from by rw [hZ]; exact ex_zeros] at HZ
  clear hi hz0 hz1 hz2 hZ hrm hbm B5
  go_wp2_with fail
  refine HZ.out.mono ?_
  rintro e w7 ⟨h | ⟨h, _⟩, hb7⟩
  · obtain ⟨l, a, cap, h1, rfl, _, _⟩ := h
    injection h1 with h1
    subst h1
    have B7 := below_chain B6 hb7 B6.size
    simp only [List.length_nil]
    clear hmk hcv
    go_wp2_with fail
    all_goals
      refine (HRo.out _).mono ?_
      rintro e w8 ⟨rfl, hb8⟩
      have B8 := below_chain B7 hb8 B7.size
      go_wp2_with fail
      go_ret
      exact ⟨rfl, B8⟩
  · cases h

end Go.Proofs.Ytlhkfpenfbakkaa
