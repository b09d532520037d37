/- Walks: the document's answer: a record of numbers encoded. -/
import Derived.Test.YtfgnemddamebaaaRecRef3
set_option linter.unusedVariables false
set_option linter.unusedSimpArgs false
set_option maxRecDepth 100000
namespace Go.Proofs.Ytfgnemddamebaaa
open Go.RowKit Go.Joins

theorem bytes_one (b : Bool) : (⟨#[if b then 1 else 0]⟩ : ByteArray) = tx (leBytes 1 (pinI b).toNat) := by cases b <;> decide

set_option maxHeartbeats 4000000 in
theorem r8enc_core2 (w : World) (q t s : Int) (ah : Option Addr) (ch : Nat) (am : Option Addr) (cm : Nat) (hs : List Int) (ms : List Bool) (P1 P2 P4 : ByteArray) (S T : Nat → ByteArray) (m : Nat)
    (hn : hs.length ≤ 28) (hn2 : ms.length ≤ 24) (hn1 : (0 : Int) < (hs.length : Int))
    (hV1 : ValS w ah (hs.map (Value.int .i64))) (hV2 : ValS w am (ms.map Value.bool))
    (HK : Hid (∀ W, Below w.heap.size w W → Calls Try.prog 31 #[rv 2 q t ah hs.length ch am ms.length cm s] W fun e w' => e = .returned (.bool true) ∧ Below W.heap.size W w'))
    (HC0 : Hid (∀ W, Calls Try.prog 32 #[.string ⟨#[71, 76, 74, 119]⟩, .int .i64 1, .int .u64 2] W fun e w' => e = .returned (.string P1) ∧ Below W.heap.size W w'))
    (HC1 : Hid (∀ W, Calls Try.prog 32 #[.string P1, .int .i64 8, .int .u64 q] W fun e w' => e = .returned (.string P2) ∧ Below W.heap.size W w'))
    (HC2 : Hid (∀ W, Calls Try.prog 32 #[.string P2, .int .i64 1, .int .u64 (hs.length : Int)] W fun e w' => e = .returned (.string (S 0)) ∧ Below W.heap.size W w'))
    (HP : Hid (∀ i b, hs[i]? = some b → 0 ≤ b ∧ b ≤ 65535 ∧ ∀ W, Calls Try.prog 32 #[.string (S i), .int .i64 2, .int .u64 b] W fun e w' => e = .returned (.string (S (i + 1))) ∧ Below W.heap.size W w'))
    (HST : Hid (S hs.length = T 0))
    (HT : Hid (∀ i b, ms[i]? = some b → T i ++ ⟨#[if b then 1 else 0]⟩ = T (i + 1)))
    (HZ : Hid (∀ i, i ≤ ms.length → (T i).size ≤ 1000))
    (hm : Hid ((T ms.length).size + m = 128))
    (H8 : Hid (T ms.length ++ zerosB m = P4)) :
    Calls Try.prog 12 #[rv 2 q t ah hs.length ch am ms.length cm s] w fun e w' => e = .returned (.tuple #[.string P4, .int .i64 0]) ∧ Below w.heap.size w w' := by
  obtain ⟨i0, hi, hz0, hz1, hz2⟩ := info_parts info_u8
  have HI := Lib.hid (And.intro hi (And.intro hz0 (And.intro hz1 hz2)))
  clear hi hz0 hz1 hz2
  have hB0 : Below w.heap.size w (w.alloc (.cells (rcells 2 q t ah hs.length ch am ms.length cm s) 27)) := (Below.refl w.heap.size w).alloc (Nat.le_refl _) _
  have hr0 := rowAt_alloc w (rcells 2 q t ah hs.length ch am ms.length cm s) 27
  go_enter Try.func12, Try.ntmps12
  go_wp2_with fail
  refine (HK.out _ hB0).mono ?_
  rintro e w1 ⟨rfl, hb1⟩
  have B1 := below_chain hB0 hb1 hB0.size
  have r1 := hr0.below hb1 hr0.lt
  clear hr0 hb1 hB0
  have c0 : w1.cell? ⟨w.heap.size, 0, none⟩ = some (.int .i64 2) := r1.cell 0 (by simp)
  have c1 : w1.cell? ⟨w.heap.size, 1, none⟩ = some (.int .u64 q) := r1.cell 1 (by simp)
  have B1s : w.heap.size ≤ w1.heap.size := B1.size
  have hl1 := r1.lt
  go_wp2_with fail
  go_region_held3 (fun w' => w'.cell? ⟨w.heap.size, 0, none⟩ = some (.int .i64 2) ∧ w'.cell? ⟨w.heap.size, 1, none⟩ = some (.int .u64 q) ∧ RowAt w' w.heap.size [.int .i64 2, .int .u64 q, .int .i64 t, .slice ah hs.length ch, .slice am ms.length cm, .int .u32 s] ∧ Below w.heap.size w w' ∧ w.heap.size ≤ w'.heap.size) (first | (exact rec2_keep ⟨c0, c1, r1, B1, B1s⟩ ((Below.refl _ _).drew)) | (exact rec2_keep (by assumption) (by assumption)))
    (first | (go_at_call_of 32 (P1); refine (HC1.out _).mono ?_; rintro e w' ⟨rfl, hb'⟩) | (go_at_call 32; refine (HC0.out _).mono ?_; rintro e w' ⟨rfl, hb'⟩))
  obtain ⟨r2, B2⟩ := rec2_ends (W := w') (by assumption)
  clear c0 c1 r1 B1 B1s hl1
  obtain ⟨c0, c1, c2, c3, c4, c5⟩ := sixr_cells r2
  have hl2 := r2.lt
  go_wp2_with fail
  refine (HC2.out _).mono ?_
  rintro e w3 ⟨rfl, hb3⟩
  have B3 := below_chain B2 hb3 B2.size
  have r3 := r2.below hb3 r2.lt
  clear c0 c1 c2 c3 c4 c5 B2 r2 hl2 hb3
  have c3 : w3.cell? ⟨w.heap.size, 3, none⟩ = some (.slice ah hs.length ch) := r3.cell 3 (by simp)
  go_wp2_with fail
  go_loopw [4, 5] (fun s' j wr => ∃ i : Nat, i ≤ hs.length ∧ j = .int .i64 i ∧ s' = .string (S i) ∧ RowAt wr w.heap.size [.int .i64 2, .int .u64 q, .int .i64 t, .slice ah hs.length ch, .slice am ms.length cm, .int .u32 s] ∧ Below w.heap.size w wr) (fun _ j _ => hs.length - (intOf j).toNat)
  case atStart => exact ⟨0, by omega, rfl, rfl, r3, B3⟩
  case round =>
    clear r3 B3 c3
    obtain ⟨i, hi, rfl, rfl, r6, B6⟩ := hrel
    have c3 : wr.cell? ⟨w.heap.size, 3, none⟩ = some (.slice ah hs.length ch) := r6.cell 3 (by simp)
    have l6 := r6.lt
    by_cases hlt : i < hs.length
    · obtain ⟨b, hb⟩ : ∃ b, hs[i]? = some b := ⟨_, List.getElem?_eq_getElem hlt⟩
      rcases hV1 with h0 | ⟨B, o, rfl, hV⟩
      · have : hs.length = 0 := by have := congrArg List.length h0; simpa using this
        omega
      · have cb := ints_at (hV.below B6 hV.1) hb
        obtain ⟨hb0, hb2, hP0⟩ := HP.out i b hb
        have hP := Lib.hid hP0
        have hi0 : (0 : Int) ≤ (i : Int) := by omega
        have hi1 : (i : Int) < (hs.length : Int) := by omega
        clear hb hP0
        go_wp2_with fail
        refine (hP.out _).mono ?_
        rintro e w7 ⟨rfl, hb7⟩
        have B7 := below_chain B6 hb7 B6.size
        have r7 := r6.below hb7 r6.lt
        go_wp2_with fail
        go_roundw
        case rel => exact ⟨i + 1, by omega, by go_num, rfl, r7, B7⟩
        case measure => simp [intOf]; omega
    · obtain rfl : i = hs.length := by omega
      have c4 : wr.cell? ⟨w.heap.size, 4, none⟩ = some (.slice am ms.length cm) := r6.cell 4 (by simp)
      rw [HST.out]
      go_wp2_with fail
      obtain ⟨wo, hwo⟩ : ∃ wo, wo = wr := ⟨_, rfl⟩
      rw [← hwo] at r6 B6 c4 ⊢
      clear hwo c3 l6
      go_loopw [4, 6] (fun s' j wr => ∃ i : Nat, i ≤ ms.length ∧ j = .int .i64 i ∧ s' = .string (T i) ∧ RowAt wr w.heap.size [.int .i64 2, .int .u64 q, .int .i64 t, .slice ah hs.length ch, .slice am ms.length cm, .int .u32 s] ∧ Below w.heap.size w wr) (fun _ j _ => ms.length - (intOf j).toNat)
      case atStart => exact ⟨0, by omega, rfl, rfl, r6, B6⟩
      case round =>
        clear r6 B6 c4
        obtain ⟨i, hi, rfl, rfl, r6, B6⟩ := hrel
        have c4 : wr.cell? ⟨w.heap.size, 4, none⟩ = some (.slice am ms.length cm) := r6.cell 4 (by simp)
        have l6 := r6.lt
        have hz := HZ.out i hi
        by_cases hlt : i < ms.length
        · obtain ⟨b, hb⟩ : ∃ b, ms[i]? = some b := ⟨_, List.getElem?_eq_getElem hlt⟩
          rcases hV2 with h0 | ⟨B, o, rfl, hV⟩
          · have : ms.length = 0 := by have := congrArg List.length h0; simpa using this
            omega
          · have cb := bools_at (hV.below B6 hV.1) hb
            have hnx := Lib.hid (HT.out i b hb)
            have hi0 : (0 : Int) ≤ (i : Int) := by omega
            have hi1 : (i : Int) < (ms.length : Int) := by omega
            have z3 : ¬ 9223372036854775807 < (T i).size + 1 := by omega
            have z4 : (⟨#[0]⟩ : ByteArray).size = 1 := rfl
            have z5 : (⟨#[1]⟩ : ByteArray).size = 1 := rfl
            clear hb
            cases b
            all_goals
              go_wp2_with fail
              go_roundw
              case rel => exact ⟨i + 1, by omega, by go_num, by first | exact congrArg Value.string hnx.out | (rw [← hnx.out]; rfl), r6, B6⟩
              case measure => simp [intOf]; omega
        · obtain rfl : i = ms.length := by omega
          have hmm := hm.out
          have HF := H8
          generalize T ms.length = P3 at hmm HF hz ⊢
          have hmi : (128 : Int) - (P3.size : Int) = (m : Int) := by omega
          have z1 := zerosB_size m
          have z3 : ¬ 9223372036854775807 < P3.size + m := by omega
          obtain ⟨W4, hmk, hbm, hrm⟩ := make_bytes (P := Try.prog) wr 62 5 i0 Try.underlying62 HI.out.1 HI.out.2.1 HI.out.2.2.1 HI.out.2.2.2 m (by omega)
          have hback : (convert 62 9 (.slice (some ⟨wr.heap.size, 0, none⟩) m m)).run Try.prog W4 = .ok (.string (zerosB m)) W4 := conv_string (P := Try.prog) W4 62 9 5 wr.heap.size m m _ Try.underlying62 Try.underlying5 Try.underlying9 hrm (by simp)
          have B8 := below_chain B6 hbm B6.size
          clear hrm hbm
          go_wp2_with fail
          go_ret2
          rw [HF.out]
          exact ⟨rfl, B8⟩

set_option maxHeartbeats 4000000 in
theorem r8enc_core3 (w : World) (q t s : Int) (ah : Option Addr) (ch : Nat) (am : Option Addr) (cm : Nat) (hs : List Int) (ms : List Bool) (P1 P2 P4 : ByteArray) (S T : Nat → ByteArray) (m : Nat)
    (hn : hs.length ≤ 28) (hn2 : ms.length ≤ 24) (hn1 : (0 : Int) < (hs.length : Int))
    (hV1 : ValS w ah (hs.map (Value.int .i64))) (hV2 : ValS w am (ms.map Value.bool))
    (HK : Hid (∀ W, Below w.heap.size w W → Calls Try.prog 31 #[rv 3 q t ah hs.length ch am ms.length cm s] W fun e w' => e = .returned (.bool true) ∧ Below W.heap.size W w'))
    (HC0 : Hid (∀ W, Calls Try.prog 32 #[.string ⟨#[71, 76, 74, 119]⟩, .int .i64 1, .int .u64 3] W fun e w' => e = .returned (.string P1) ∧ Below W.heap.size W w'))
    (HC1 : Hid (∀ W, Calls Try.prog 32 #[.string P1, .int .i64 8, .int .u64 q] W fun e w' => e = .returned (.string P2) ∧ Below W.heap.size W w'))
    (HC2 : Hid (∀ W, Calls Try.prog 32 #[.string P2, .int .i64 1, .int .u64 (hs.length : Int)] W fun e w' => e = .returned (.string (S 0)) ∧ Below W.heap.size W w'))
    (HP : Hid (∀ i b, hs[i]? = some b → 0 ≤ b ∧ b ≤ 65535 ∧ ∀ W, Calls Try.prog 32 #[.string (S i), .int .i64 2, .int .u64 b] W fun e w' => e = .returned (.string (S (i + 1))) ∧ Below W.heap.size W w'))
    (HST : Hid (S hs.length = T 0))
    (HT : Hid (∀ i b, ms[i]? = some b → T i ++ ⟨#[if b then 1 else 0]⟩ = T (i + 1)))
    (HZ : Hid (∀ i, i ≤ ms.length → (T i).size ≤ 1000))
    (hm : Hid ((T ms.length).size + m = 128))
    (H8 : Hid (T ms.length ++ zerosB m = P4)) :
    Calls Try.prog 12 #[rv 3 q t ah hs.length ch am ms.length cm s] w fun e w' => e = .returned (.tuple #[.string P4, .int .i64 0]) ∧ Below w.heap.size w w' := by
  obtain ⟨i0, hi, hz0, hz1, hz2⟩ := info_parts info_u8
  have HI := Lib.hid (And.intro hi (And.intro hz0 (And.intro hz1 hz2)))
  clear hi hz0 hz1 hz2
  have hB0 : Below w.heap.size w (w.alloc (.cells (rcells 3 q t ah hs.length ch am ms.length cm s) 27)) := (Below.refl w.heap.size w).alloc (Nat.le_refl _) _
  have hr0 := rowAt_alloc w (rcells 3 q t ah hs.length ch am ms.length cm s) 27
  go_enter Try.func12, Try.ntmps12
  go_wp2_with fail
  refine (HK.out _ hB0).mono ?_
  rintro e w1 ⟨rfl, hb1⟩
  have B1 := below_chain hB0 hb1 hB0.size
  have r1 := hr0.below hb1 hr0.lt
  clear hr0 hb1 hB0
  have c0 : w1.cell? ⟨w.heap.size, 0, none⟩ = some (.int .i64 3) := r1.cell 0 (by simp)
  have c1 : w1.cell? ⟨w.heap.size, 1, none⟩ = some (.int .u64 q) := r1.cell 1 (by simp)
  have B1s : w.heap.size ≤ w1.heap.size := B1.size
  have hl1 := r1.lt
  go_wp2_with fail
  go_region_held3 (fun w' => w'.cell? ⟨w.heap.size, 0, none⟩ = some (.int .i64 3) ∧ w'.cell? ⟨w.heap.size, 1, none⟩ = some (.int .u64 q) ∧ RowAt w' w.heap.size [.int .i64 3, .int .u64 q, .int .i64 t, .slice ah hs.length ch, .slice am ms.length cm, .int .u32 s] ∧ Below w.heap.size w w' ∧ w.heap.size ≤ w'.heap.size) (first | (exact rec2_keep ⟨c0, c1, r1, B1, B1s⟩ ((Below.refl _ _).drew)) | (exact rec2_keep (by assumption) (by assumption)))
    (first | (go_at_call_of 32 (P1); refine (HC1.out _).mono ?_; rintro e w' ⟨rfl, hb'⟩) | (go_at_call 32; refine (HC0.out _).mono ?_; rintro e w' ⟨rfl, hb'⟩))
  obtain ⟨r2, B2⟩ := rec2_ends (W := w') (by assumption)
  clear c0 c1 r1 B1 B1s hl1
  obtain ⟨c0, c1, c2, c3, c4, c5⟩ := sixr_cells r2
  have hl2 := r2.lt
  go_wp2_with fail
  refine (HC2.out _).mono ?_
  rintro e w3 ⟨rfl, hb3⟩
  have B3 := below_chain B2 hb3 B2.size
  have r3 := r2.below hb3 r2.lt
  clear c0 c1 c2 c3 c4 c5 B2 r2 hl2 hb3
  have c3 : w3.cell? ⟨w.heap.size, 3, none⟩ = some (.slice ah hs.length ch) := r3.cell 3 (by simp)
  go_wp2_with fail
  go_loopw [4, 5] (fun s' j wr => ∃ i : Nat, i ≤ hs.length ∧ j = .int .i64 i ∧ s' = .string (S i) ∧ RowAt wr w.heap.size [.int .i64 3, .int .u64 q, .int .i64 t, .slice ah hs.length ch, .slice am ms.length cm, .int .u32 s] ∧ Below w.heap.size w wr) (fun _ j _ => hs.length - (intOf j).toNat)
  case atStart => exact ⟨0, by omega, rfl, rfl, r3, B3⟩
  case round =>
    clear r3 B3 c3
    obtain ⟨i, hi, rfl, rfl, r6, B6⟩ := hrel
    have c3 : wr.cell? ⟨w.heap.size, 3, none⟩ = some (.slice ah hs.length ch) := r6.cell 3 (by simp)
    have l6 := r6.lt
    by_cases hlt : i < hs.length
    · obtain ⟨b, hb⟩ : ∃ b, hs[i]? = some b := ⟨_, List.getElem?_eq_getElem hlt⟩
      rcases hV1 with h0 | ⟨B, o, rfl, hV⟩
      · have : hs.length = 0 := by have := congrArg List.length h0; simpa using this
        omega
      · have cb := ints_at (hV.below B6 hV.1) hb
        obtain ⟨hb0, hb2, hP0⟩ := HP.out i b hb
        have hP := Lib.hid hP0
        have hi0 : (0 : Int) ≤ (i : Int) := by omega
        have hi1 : (i : Int) < (hs.length : Int) := by omega
        clear hb hP0
        go_wp2_with fail
        refine (hP.out _).mono ?_
        rintro e w7 ⟨rfl, hb7⟩
        have B7 := below_chain B6 hb7 B6.size
        have r7 := r6.below hb7 r6.lt
        go_wp2_with fail
        go_roundw
        case rel => exact ⟨i + 1, by omega, by go_num, rfl, r7, B7⟩
        case measure => simp [intOf]; omega
    · obtain rfl : i = hs.length := by omega
      have c4 : wr.cell? ⟨w.heap.size, 4, none⟩ = some (.slice am ms.length cm) := r6.cell 4 (by simp)
      rw [HST.out]
      go_wp2_with fail
      obtain ⟨wo, hwo⟩ : ∃ wo, wo = wr := ⟨_, rfl⟩
      rw [← hwo] at r6 B6 c4 ⊢
      clear hwo c3 l6
      go_loopw [4, 6] (fun s' j wr => ∃ i : Nat, i ≤ ms.length ∧ j = .int .i64 i ∧ s' = .string (T i) ∧ RowAt wr w.heap.size [.int .i64 3, .int .u64 q, .int .i64 t, .slice ah hs.length ch, .slice am ms.length cm, .int .u32 s] ∧ Below w.heap.size w wr) (fun _ j _ => ms.length - (intOf j).toNat)
      case atStart => exact ⟨0, by omega, rfl, rfl, r6, B6⟩
      case round =>
        clear r6 B6 c4
        obtain ⟨i, hi, rfl, rfl, r6, B6⟩ := hrel
        have c4 : wr.cell? ⟨w.heap.size, 4, none⟩ = some (.slice am ms.length cm) := r6.cell 4 (by simp)
        have l6 := r6.lt
        have hz := HZ.out i hi
        by_cases hlt : i < ms.length
        · obtain ⟨b, hb⟩ : ∃ b, ms[i]? = some b := ⟨_, List.getElem?_eq_getElem hlt⟩
          rcases hV2 with h0 | ⟨B, o, rfl, hV⟩
          · have : ms.length = 0 := by have := congrArg List.length h0; simpa using this
            omega
          · have cb := bools_at (hV.below B6 hV.1) hb
            have hnx := Lib.hid (HT.out i b hb)
            have hi0 : (0 : Int) ≤ (i : Int) := by omega
            have hi1 : (i : Int) < (ms.length : Int) := by omega
            have z3 : ¬ 9223372036854775807 < (T i).size + 1 := by omega
            have z4 : (⟨#[0]⟩ : ByteArray).size = 1 := rfl
            have z5 : (⟨#[1]⟩ : ByteArray).size = 1 := rfl
            clear hb
            cases b
            all_goals
              go_wp2_with fail
              go_roundw
              case rel => exact ⟨i + 1, by omega, by go_num, by first | exact congrArg Value.string hnx.out | (rw [← hnx.out]; rfl), r6, B6⟩
              case measure => simp [intOf]; omega
        · obtain rfl : i = ms.length := by omega
          have hmm := hm.out
          have HF := H8
          generalize T ms.length = P3 at hmm HF hz ⊢
          have hmi : (128 : Int) - (P3.size : Int) = (m : Int) := by omega
          have z1 := zerosB_size m
          have z3 : ¬ 9223372036854775807 < P3.size + m := by omega
          obtain ⟨W4, hmk, hbm, hrm⟩ := make_bytes (P := Try.prog) wr 62 5 i0 Try.underlying62 HI.out.1 HI.out.2.1 HI.out.2.2.1 HI.out.2.2.2 m (by omega)
          have hback : (convert 62 9 (.slice (some ⟨wr.heap.size, 0, none⟩) m m)).run Try.prog W4 = .ok (.string (zerosB m)) W4 := conv_string (P := Try.prog) W4 62 9 5 wr.heap.size m m _ Try.underlying62 Try.underlying5 Try.underlying9 hrm (by simp)
          have B8 := below_chain B6 hbm B6.size
          clear hrm hbm
          go_wp2_with fail
          go_ret2
          rw [HF.out]
          exact ⟨rfl, B8⟩

theorem r8enc_many (x : Rc) (ah : Option Addr) (ch : Nat) (am : Option Addr) (cm : Nat) (w : World) (hf : x.fit) (hS : RcS w x ah am) (h : x.ok = true) (hk : x.k = 2 ∨ x.k = 3) :
    Calls Try.prog 12 #[rcV x ah ch am cm] w fun e w' => e = .returned (.tuple #[.string (tx x.bytes), .int .i64 0]) ∧ Below w.heap.size w w' := by
  have hfs := Rc.fs_ok h hf
  have hlen : 1 ≤ x.hs.length ∧ x.hs.length ≤ 28 ∧ x.ms.length ≤ 24 := by
    rcases x.ok_iff.1 h with ⟨a, _, _, _, b, c⟩ | ⟨a, _, _, _, _, b, c⟩ | ⟨a, _, _, _, _, b, c⟩ | ⟨a, _, b, c⟩
    · omega
    · omega
    · rw [c]; simp; omega
    · omega
  have hbody : x.body = (1, (x.hs.length : Int)) :: (x.hs.map (fun z => (2, z)) ++ x.ms.map (fun b => (1, pinI b))) := by rw [Rc.body, if_neg (by omega), if_neg (by omega)]
  have hmany : x.many = 10 + 2 * x.hs.length + x.ms.length := by rw [Rc.many_eq, if_neg (by omega), if_neg (by omega)]; omega
  have HOK : ∀ f ∈ x.body, fldOk f := fun f hf => hfs f (by simp only [Rc.fs, List.mem_cons]; exact .inr (.inr hf))
  have HK := Lib.hid (fun W (hb : Below w.heap.size w W) => by have := rmay08_any x ah ch am cm W (by omega) (by omega) (hS.below hb (Nat.le_refl _)); rw [h] at this; exact this : ∀ W, Below w.heap.size w W → Calls Try.prog 31 #[rcV x ah ch am cm] W fun e w' => e = .returned (.bool true) ∧ Below W.heap.size W w')
  have HC0 := Lib.hid (fun W => qstg_one x x.k rfl (hfs (1, x.k) (by simp [Rc.fs])) W)
  have HC1 := Lib.hid (fun W => qstg_two x x.q rfl (hfs (8, x.q) (by simp [Rc.fs])) W)
  have HC2 := Lib.hid (fun W => qstg_put x [] (1, (x.hs.length : Int)) (HOK (1, (x.hs.length : Int)) (by rw [hbody]; simp)) (by simp [fldB]) 1 (x.hs.length : Int) rfl rfl W)
  have e2 : (256 : Nat) ^ 2 = 65536 := by decide
  have hT : ∀ i ≤ x.ms.length, (qstg x (rH x i)).size = 14 + 2 * x.hs.length + i := fun i hi => by rw [qstg_size, rH_len x i hi]; omega
  have HP : Hid (∀ i b, x.hs[i]? = some b → 0 ≤ b ∧ b ≤ 65535 ∧ ∀ W, Calls Try.prog 32 #[.string (qstg x (rG x i)), .int .i64 2, .int .u64 b] W fun e w' => e = .returned (.string (qstg x (rG x (i + 1)))) ∧ Below W.heap.size W w') := by
    intro i b hb
    have hbs := HOK (2, b) (by rw [hbody]; simp only [List.mem_cons, List.mem_append, List.mem_map]; exact .inr (.inl ⟨b, List.mem_of_getElem? hb, rfl⟩))
    have hi := (List.getElem?_eq_some_iff.1 hb).1
    refine ⟨hbs.2.1, ?_, fun W => ?_⟩
    · have := hbs.2.2; simp only [e2] at this; omega
    · have := qstg_put x (rG x i) (2, b) hbs (by rw [rG_len x i (by omega)]; omega) 2 b rfl rfl W
      rw [rG_next x i b hb] at this
      exact this
  have HST : Hid (qstg x (rG x x.hs.length) = qstg x (rH x 0)) := by show _ = _; rw [rH_zero]
  have HT : Hid (∀ i b, x.ms[i]? = some b → qstg x (rH x i) ++ ⟨#[if b then 1 else 0]⟩ = qstg x (rH x (i + 1))) := fun i b hb => by
    rw [bytes_one]
    exact (qstg_snoc x (rH x i) (1, pinI b)).trans (congrArg (qstg x) (rH_next x i b hb))
  have HZ : Hid (∀ i, i ≤ x.ms.length → (qstg x (rH x i)).size ≤ 1000) := fun i hi => by rw [hT i hi]; omega
  have hm : Hid ((qstg x (rH x x.ms.length)).size + (124 - x.many) = 128) := by show _ = _; rw [hT _ (Nat.le_refl _), hmany]; omega
  have H8 : Hid (qstg x (rH x x.ms.length) ++ zerosB (124 - x.many) = tx x.bytes) := by
    show _ = _
    rw [← rec_last2, hbody, ← rH_last]
  have HC2' : Hid (∀ W, Calls Try.prog 32 #[.string (qstg x []), .int .i64 1, .int .u64 (x.hs.length : Int)] W fun e w' => e = .returned (.string (qstg x (rG x 0))) ∧ Below W.heap.size W w') := by
    have e : rG x 0 = [] ++ [(1, (x.hs.length : Int))] := by simp [rG]
    rw [e]; exact HC2
  rcases hk with hk | hk
  · rw [rcV, hk] at HK ⊢
    rw [hk] at HC0
    exact r8enc_core2 w x.q x.at_ x.sum ah ch am cm x.hs x.ms _ _ _ (fun i => qstg x (rG x i)) (fun i => qstg x (rH x i)) (124 - x.many) hlen.2.1 hlen.2.2 (by omega) hS.1 hS.2 HK HC0 (by rw [hk] at HC1; exact HC1) HC2' HP HST HT HZ hm H8
  · rw [rcV, hk] at HK ⊢
    rw [hk] at HC0
    exact r8enc_core3 w x.q x.at_ x.sum ah ch am cm x.hs x.ms _ _ _ (fun i => qstg x (rG x i)) (fun i => qstg x (rH x i)) (124 - x.many) hlen.2.1 hlen.2.2 (by omega) hS.1 hS.2 HK HC0 (by rw [hk] at HC1; exact HC1) HC2' HP HST HT HZ hm H8

theorem r8enc_yes (x : Rc) (ah : Option Addr) (ch : Nat) (am : Option Addr) (cm : Nat) (w : World) (hf : x.fit) (hS : RcS w x ah am) (h : x.ok = true) :
    Calls Try.prog 12 #[rcV x ah ch am cm] w fun e w' => e = .returned (.tuple #[.string (tx x.bytes), .int .i64 0]) ∧ Below w.heap.size w w' := by
  have hfs := Rc.fs_ok h hf
  have HK := Lib.hid (fun W (hb : Below w.heap.size w W) (hn : x.hs.length ≤ 100) (hm : x.ms.length ≤ 100) => by have := rmay08_any x ah ch am cm W (by omega) (by omega) (hS.below hb (Nat.le_refl _)); rw [h] at this; exact this : ∀ W, Below w.heap.size w W → x.hs.length ≤ 100 → x.ms.length ≤ 100 → Calls Try.prog 31 #[rcV x ah ch am cm] W fun e w' => e = .returned (.bool true) ∧ Below W.heap.size W w')
  have HC0 := Lib.hid (fun W => qstg_one x x.k rfl (hfs (1, x.k) (by simp [Rc.fs])) W)
  have HC1 := Lib.hid (fun W => qstg_two x x.q rfl (hfs (8, x.q) (by simp [Rc.fs])) W)
  have HOK : ∀ f ∈ x.body, fldOk f := fun f hf => hfs f (by simp only [Rc.fs, List.mem_cons]; exact .inr (.inr hf))
  have hmany := Rc.many_eq x
  have H8 : Hid (qstg x x.body ++ zerosB (124 - x.many) = tx x.bytes) := rec_last2
  rcases x.ok_iff.1 h with ⟨a, b, c, _, d, e⟩ | ⟨a, _⟩ | ⟨a, _⟩ | ⟨a, _, d, e⟩
  · have hbody : x.body = [] ++ [(2, x.at_)] := by rw [Rc.body, if_pos a]; rfl
    have ok := HOK (2, x.at_) (by rw [hbody]; simp)
    have HC2 := Lib.hid (fun W => qstg_put x [] (2, x.at_) ok (by simp [fldB]) 2 x.at_ rfl rfl W)
    rw [← hbody] at HC2
    rw [if_pos a] at hmany
    have hsz : (qstg x x.body).size = 15 := by rw [qstg_size, hbody]; simp [fldB, leBytes_length]
    rw [rcV, a, d, e] at HK ⊢
    rw [a] at HC0
    exact r8enc_head w x.q x.at_ x.sum ah ch am cm _ _ _ _ (124 - x.many) (by rw [hsz, hmany]) b (by omega) (fun W hb => HK.out W hb (by simp) (by simp)) HC0 (by rw [a] at HC1; exact HC1) HC2 H8
  · exact r8enc_many x ah ch am cm w hf hS h (.inl a)
  · exact r8enc_many x ah ch am cm w hf hS h (.inr a)
  · have hbody : x.body = [] ++ [(4, x.sum)] := by rw [Rc.body, if_neg (by omega), if_pos a]; rfl
    have ok := HOK (4, x.sum) (by rw [hbody]; simp)
    have HC2 := Lib.hid (fun W => qstg_put x [] (4, x.sum) ok (by simp [fldB]) 4 x.sum rfl rfl W)
    rw [← hbody] at HC2
    rw [if_neg (by omega), if_pos a] at hmany
    have hsz : (qstg x x.body).size = 17 := by rw [qstg_size, hbody]; simp [fldB, leBytes_length]
    rw [rcV, a, d, e] at HK ⊢
    rw [a] at HC0
    exact r8enc_commit w x.q x.at_ x.sum ah ch am cm _ _ _ _ (124 - x.many) (by rw [hsz, hmany]) hf.2.2.1 hf.2.2.2 (fun W hb => HK.out W hb (by simp) (by simp)) HC0 (by rw [a] at HC1; exact HC1) HC2 H8

set_option maxHeartbeats 1000000 in
theorem r8enc_no (x : Rc) (ah : Option Addr) (ch : Nat) (am : Option Addr) (cm : Nat) (w : World) (hn : x.hs.length ≤ 100000) (hm : x.ms.length ≤ 100000) (hS : RcS w x ah am) (h : x.ok = false) :
    Calls Try.prog 12 #[rcV x ah ch am cm] w fun e w' => e = .returned (.tuple #[.string ⟨#[]⟩, .int .i64 2]) ∧ Below w.heap.size w w' := by
  have HC1 := Lib.hid (fun W (hb : Below w.heap.size w W) => by have := rmay08_any x ah ch am cm W hn hm (hS.below hb (Nat.le_refl _)); rw [h] at this; exact this : ∀ W, Below w.heap.size w W → Calls Try.prog 31 #[rcV x ah ch am cm] W fun e w' => e = .returned (.bool false) ∧ Below W.heap.size W w')
  have hB0 : Below w.heap.size w (w.alloc (.cells (rcells x.k x.q x.at_ ah x.hs.length ch am x.ms.length cm x.sum) 27)) := (Below.refl w.heap.size w).alloc (Nat.le_refl _) _
  clear h
  go_enter Try.func12, Try.ntmps12
  go_wp2_with fail
  refine (HC1.out _ hB0).mono ?_
  rintro e w1 ⟨rfl, hb1⟩
  have B1 := below_chain hB0 hb1 hB0.size
  go_wp2_with fail
  go_ret2
  exact ⟨rfl, B1⟩

end Go.Proofs.Ytfgnemddamebaaa
