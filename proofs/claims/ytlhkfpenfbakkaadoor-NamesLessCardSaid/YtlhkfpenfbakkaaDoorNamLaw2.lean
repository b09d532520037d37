/- Walks: the names' laws' own functions: alive. -/
import Derived.Test.YtlhkfpenfbakkaaDoorNamLaw
set_option linter.unusedVariables false
set_option linter.unusedSimpArgs false
set_option maxRecDepth 100000
namespace Go.Proofs.YtlhkfpenfbakkaaDoor
open Go.RowKit Go.Joins

def exA : List ByteArray := [⟨#[97]⟩, ⟨#[98, 99]⟩, ⟨#[46, 46]⟩]
theorem ex_split1 : splitP (bts ⟨#[47, 97, 47, 98, 99, 47, 46, 46]⟩) = (exA.map bts, 0) := by decide +kernel
theorem ex_split2 : splitP (bts ⟨#[47, 97, 47, 47, 98]⟩) = ([], 130) := by decide +kernel
theorem ex_split3 : splitP (bts ⟨#[47]⟩) = ([], 0) := by decide +kernel
theorem ex_join1 : joinP (([⟨#[97]⟩, ⟨#[46]⟩] : List ByteArray).map bts) = ([47, 97, 47, 46], 0) := by decide +kernel
theorem ex_join2 : joinP (([] : List ByteArray).map bts) = ([47], 0) := by decide +kernel
theorem ex_check1 : checkP (bts ⟨#[46, 46]⟩) = 130 := by decide +kernel
theorem ex_check2 : checkP (bts ⟨#[97]⟩) = 0 := by decide +kernel

theorem map_bts_inj {l m : List ByteArray} (h : l.map bts = m.map bts) : l = m := by
  induction l generalizing m with
  | nil => cases m with
    | nil => rfl
    | cons y m => cases h
  | cons x l ih => cases m with
    | nil => cases h
    | cons y m =>
      rw [List.map_cons, List.map_cons] at h
      injection h with h1 h2
      rw [bts_ext h1, ih h2]
/-- Split, the answer known -/
theorem csplit_is {s : ByteArray} {m : List ByteArray} {z : Int} (h : splitP (bts s) = (m.map bts, z)) (w : World) : Calls Tryd.prog 9 #[.string s] w fun e w' => (∃ (a : Option Addr) (cap : Nat), e = .returned (.tuple #[.slice a m.length cap, .int .i64 z]) ∧ m.length ≤ cap ∧ (a = none → cap = 0) ∧ NewS w' w.heap.size a (strs m)) ∧ Below w.heap.size w w' := by
  refine (csplit_any s w).mono ?_
  rintro e w' ⟨⟨l, a, cap, h1, h2, h3, h4, h5⟩, hb⟩
  rw [h] at h1 h2
  obtain rfl := map_bts_inj h1
  exact ⟨⟨a, cap, h2, h3, h4, h5⟩, hb⟩
theorem rsplit_is {s : ByteArray} {m : List ByteArray} {z : Int} (h : splitP (bts s) = (m.map bts, z)) (hs : s.size ≤ 100000) (w : World) : Calls Tryd.prog 10 #[.string s] w fun e w' => (∃ (a : Option Addr) (cap : Nat), e = .returned (.tuple #[.slice a m.length cap, .int .i64 z]) ∧ m.length ≤ cap ∧ (a = none → cap = 0) ∧ NewS w' w.heap.size a (strs m)) ∧ Below w.heap.size w w' := by
  refine (rsplit_any s w hs).mono ?_
  rintro e w' ⟨⟨l, a, cap, h1, h2, h3, h4, h5⟩, hb⟩
  rw [h] at h1 h2
  obtain rfl := map_bts_inj h1
  exact ⟨⟨a, cap, h2, h3, h4, h5⟩, hb⟩

set_option maxHeartbeats 8000000 in
theorem alive13 (w : World) : Calls Tryd.prog 14 #[] w fun e w' => e = .returned (.bool true) ∧ Below w.heap.size w w' := by
  have B0 : Below w.heap.size w w := Below.refl _ _
  have S1 := Lib.hid (fun W => csplit_is (m := exA) (z := 0) ex_split1 W)
  have S2 := Lib.hid (fun W => csplit_is (m := []) (z := 130) ex_split2 W)
  have S3 := Lib.hid (fun W => csplit_is (m := []) (z := 0) ex_split3 W)
  have C1 := Lib.hid (fun W => ccheck_any ⟨#[46, 46]⟩ W)
  have C2 := Lib.hid (fun W => ccheck_any ⟨#[97]⟩ W)
  rw [ex_check1] at C1
  rw [ex_check2] at C2
  go_enter Tryd.func14, Tryd.ntmps14
  go_wp2_with fail
  refine (S1.out _).mono ?_
  rintro e w1 ⟨⟨a1, c1, rfl, h11, h12, h13⟩, hb1⟩
  have B1 := below_chain B0 hb1 B0.size
  have HV := Lib.hid h13.vals
  clear hb1 B0 h13 S1
  go_wp2_with fail
  refine (S2.out _).mono ?_
  rintro e w2 ⟨⟨a2, c2, rfl, h21, h22, h23⟩, hb2⟩
  have B2 := below_chain B1 hb2 B1.size
  have HV2 := Lib.hid (HV.out.below hb2 (Nat.le_refl _))
  clear hb2 B1 h23 S2 HV
  go_wp2_with fail
  refine (S3.out _).mono ?_
  rintro e w3 ⟨⟨a3, c3, rfl, h31, h32, h33⟩, hb3⟩
  have B3 := below_chain B2 hb3 B2.size
  have HV3 := Lib.hid (HV2.out.below hb3 (Nat.le_refl _))
  clear hb3 B2 h33 S3 HV2
  have hbA : Below w3.heap.size w3 (w3.alloc (.cells #[.string ⟨#[97]⟩, .string ⟨#[46]⟩] 9)) := (Below.refl _ _).alloc (Nat.le_refl _) _
  have BA := below_chain B3 hbA B3.size
  have HVA := Lib.hid (HV3.out.below hbA (Nat.le_refl _))
  have J1 := cjoin_any (some ⟨w3.heap.size, 0, none⟩) 2 [⟨#[97]⟩, ⟨#[46]⟩] (w3.alloc (.cells #[.string ⟨#[97]⟩, .string ⟨#[46]⟩] 9)) (.inr ⟨w3.heap.size, 0, rfl, valAt_row (rowAt_alloc w3 #[.string ⟨#[97]⟩, .string ⟨#[46]⟩] 9)⟩) (Nat.le_refl _) (by decide)
  unfold JoinR at J1
  rw [ex_join1] at J1
  have HJ1 := Lib.hid J1
  clear J1 hbA B3 HV3
  go_wp2_with fail
  refine HJ1.out.mono ?_
  rintro e w4 ⟨rfl, hb4⟩
  have B4 := below_chain BA hb4 BA.size
  have HV4 := Lib.hid (HVA.out.below hb4 (Nat.le_refl _))
  have J2 := cjoin_any none 0 [] w4 (.inl rfl) (Nat.le_refl _) (by decide)
  unfold JoinR at J2
  rw [ex_join2] at J2
  have HJ2 := Lib.hid J2
  clear J2 hb4 BA HVA HJ1
  go_wp2_with fail
  refine HJ2.out.mono ?_
  rintro e w5 ⟨rfl, hb5⟩
  have B5 := below_chain B4 hb5 B4.size
  have HV5 := Lib.hid (HV4.out.below hb5 (Nat.le_refl _))
  have hbC : Below w5.heap.size w5 (w5.alloc (.cells #[.string ⟨#[97]⟩, .string ⟨#[98, 99]⟩, .string ⟨#[46, 46]⟩] 9)) := (Below.refl _ _).alloc (Nat.le_refl _) _
  have BC := below_chain B5 hbC B5.size
  have HSm := Lib.hid (same13 a1 (some ⟨w5.heap.size, 0, none⟩) c1 3 exA (w5.alloc (.cells #[.string ⟨#[97]⟩, .string ⟨#[98, 99]⟩, .string ⟨#[46, 46]⟩] 9)) (by decide) (HV5.out.below hbC (Nat.le_refl _)) (.inr ⟨w5.heap.size, 0, rfl, valAt_row (rowAt_alloc w5 #[.string ⟨#[97]⟩, .string ⟨#[98, 99]⟩, .string ⟨#[46, 46]⟩] 9)⟩))
  have HSm : Hid (Calls Tryd.prog 13 #[.slice a1 3 c1, .slice (some ⟨w5.heap.size, 0, none⟩) 3 3] (w5.alloc (.cells #[.string ⟨#[97]⟩, .string ⟨#[98, 99]⟩, .string ⟨#[46, 46]⟩] 9)) fun e w' => e = .returned (.bool true) ∧ Below (w5.alloc (.cells #[.string ⟨#[97]⟩, .string ⟨#[98, 99]⟩, .string ⟨#[46, 46]⟩] 9)).heap.size (w5.alloc (.cells #[.string ⟨#[97]⟩, .string ⟨#[98, 99]⟩, .string ⟨#[46, 46]⟩] 9)) w') := HSm.out
  rw [show tx [47, 97, 47, 46] = ⟨#[47, 97, 47, 46]⟩ from rfl, show tx [47] = ⟨#[47]⟩ from rfl, show exA.length = 3 from rfl]
  clear hb5 hbC B4 B5 HV4 HV5 HJ2
  go_wp2_with fail
  refine HSm.out.mono ?_
  rintro e w6 ⟨rfl, hb6⟩
  have B6 := below_chain BC hb6 BC.size
  clear hb6 BC HSm
  go_wp2_with fail
  refine (C1.out _).mono ?_
  rintro e w7 ⟨rfl, hb7⟩
  have B7 := below_chain B6 hb7 B6.size
  clear hb7 B6 C1
  go_wp2_with fail
  refine (C2.out _).mono ?_
  rintro e w8 ⟨rfl, hb8⟩
  have B8 := below_chain B7 hb8 B7.size
  clear hb8 B7 C2
  go_wp2_with fail
  go_ret
  exact ⟨rfl, B8⟩

end Go.Proofs.YtlhkfpenfbakkaaDoor
