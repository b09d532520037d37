/- A part of a proof. -/
import Derived.Test.YtppdihpobokfnaaGreatDoorGI
set_option linter.unusedVariables false
set_option linter.unusedSimpArgs false
set_option maxRecDepth 100000
namespace Go.Proofs.YtppdihpobokfnaaGreatDoor
open Go.RowKit Go.Joins
def lvC1 : Cl := ⟨7, ⟨#[47, 97]⟩, ⟨#[]⟩, 0, 0, ⟨#[]⟩, false⟩
def lvC2 : Cl := ⟨1, ⟨#[47, 97, 47, 102]⟩, ⟨#[]⟩, 0, 1, ⟨#[]⟩, false⟩
def lvC3 : Cl := ⟨4, ⟨#[]⟩, ⟨#[]⟩, 0, 0, ⟨#[120, 121, 122]⟩, false⟩
def lvC4 : Cl := ⟨13, ⟨#[47, 97]⟩, ⟨#[]⟩, 0, 0, ⟨#[]⟩, false⟩
def lvC5 : Cl := ⟨9, ⟨#[47, 97, 47, 102]⟩, ⟨#[47, 103]⟩, 0, 0, ⟨#[]⟩, false⟩
def lvC6 : Cl := ⟨10, ⟨#[47, 97, 47, 102]⟩, ⟨#[]⟩, 0, 0, ⟨#[]⟩, false⟩
def lvC7 : Cl := ⟨8, ⟨#[47, 97]⟩, ⟨#[]⟩, 0, 0, ⟨#[]⟩, false⟩
def lvC8 : Cl := ⟨12, ⟨#[47]⟩, ⟨#[]⟩, 0, 0, ⟨#[]⟩, false⟩
def lvC9 : Cl := ⟨10, ⟨#[47, 103]⟩, ⟨#[]⟩, 0, 0, ⟨#[]⟩, false⟩
def lvC10 : Cl := ⟨5, ⟨#[]⟩, ⟨#[]⟩, 0, 1, ⟨#[]⟩, false⟩
def lvC11 : Cl := ⟨3, ⟨#[]⟩, ⟨#[]⟩, 0, 9, ⟨#[]⟩, false⟩
def lvC12 : Cl := ⟨7, ⟨#[47, 46, 46]⟩, ⟨#[]⟩, 0, 0, ⟨#[]⟩, false⟩
def lvM0 : Md := newP 8
def lvM1 : Md := (doP lvM0 lvC1).2
def lvM2 : Md := (doP lvM1 lvC2).2
def lvM3 : Md := (doP lvM2 lvC3).2
def lvM4 : Md := (doP lvM3 lvC4).2
def lvM5 : Md := (doP lvM4 lvC5).2
def lvM6 : Md := (doP lvM5 lvC6).2
def lvM7 : Md := (doP lvM6 lvC7).2
def lvM8 : Md := (doP lvM7 lvC8).2
def lvM9 : Md := (doP lvM8 lvC9).2
def lvM10 : Md := (doP lvM9 lvC10).2
def lvM11 : Md := (doP lvM10 lvC11).2
def lvM12 : Md := (doP lvM11 lvC12).2
theorem lvA1 : (doP lvM0 lvC1).1 = ⟨0, 0, [], [], ⟨0, 0, 0, false⟩, []⟩ := by kernel_rfl
theorem lvA2 : (doP lvM1 lvC2).1 = ⟨0, 0, [], [], ⟨0, 0, 0, false⟩, []⟩ := by kernel_rfl
theorem lvA3 : (doP lvM2 lvC3).1 = ⟨0, 3, [], [], ⟨0, 0, 0, false⟩, []⟩ := by kernel_rfl
theorem lvA4 : (doP lvM3 lvC4).1 = ⟨0, 0, [], [], ⟨2, 1, 2, false⟩, []⟩ := by kernel_rfl
theorem lvA5 : (doP lvM4 lvC5).1 = ⟨0, 0, [], [], ⟨0, 0, 0, false⟩, []⟩ := by kernel_rfl
theorem lvA6 : (doP lvM5 lvC6).1 = ⟨0, 0, [], [], ⟨0, 0, 0, false⟩, []⟩ := by kernel_rfl
theorem lvA7 : (doP lvM6 lvC7).1 = ⟨0, 0, [], [], ⟨0, 0, 0, false⟩, []⟩ := by kernel_rfl
theorem lvA8 : (doP lvM7 lvC8).1 = ⟨0, 0, [], [[103]], ⟨0, 0, 0, false⟩, []⟩ := by kernel_rfl
theorem lvA9 : (doP lvM8 lvC9).1 = ⟨0, 0, [], [], ⟨0, 0, 0, false⟩, []⟩ := by kernel_rfl
theorem lvA10 : (doP lvM9 lvC10).1 = ⟨0, 1, [], [], ⟨0, 0, 0, false⟩, []⟩ := by kernel_rfl
theorem lvA11 : (doP lvM10 lvC11).1 = ⟨0, 0, [121, 122], [], ⟨0, 0, 0, false⟩, []⟩ := by kernel_rfl
theorem lvA12 : (doP lvM11 lvC12).1 = ⟨216, 0, [], [], ⟨0, 0, 0, false⟩, []⟩ := by kernel_rfl
theorem lvO : openedP lvM12 = [⟨0, -1, 3, 3⟩] := by kernel_rfl
theorem valG_new (W : World) (xs : List Value) (t : TypeId) : ValG (W.alloc (.cells xs.toArray t)) (some ⟨W.heap.size, 0, none⟩) xs.length [xs] := by
 refine .inr ⟨W.heap.size, 0, rfl, by simp, fun i ys hi j v hj => ?_⟩
 cases i with
 | succ i => simp at hi
 | zero =>
  simp at hi
  subst hi
  have hr := rowAt_alloc W xs.toArray t
  obtain ⟨hj', _⟩ := List.getElem?_eq_some_iff.1 hj
  simp only [Nat.zero_mul, Nat.zero_add]
  rw [hr.cell j (by simpa using hj')]
  simpa using hj
set_option maxHeartbeats 16000000 in
theorem lives22 (w : World) : Calls Tryz.prog 13 #[] w fun e w' => e = .returned (.bool true) ∧ Below w.heap.size w w' := by
 have HN := Lh (lv_new w w (Below.refl _ _) 8 ⟨by omega, by omega⟩ [] (fun p hp => by cases hp))
 go_enter Tryz.func13, Tryz.ntmps13
 go_wp2_with fail
 refine HN.out.mono ?_
 rintro e W ⟨MB, rfl, hL⟩
 have L := Lh (show Lv w MB 0 W lvM0 [] from hL)
 clear hL HN
 go_wp2_with fail
 have hcall := lv_do L.out (by omega) lvC1 (by decide)
 rw [lvA1] at hcall
 simp only [lvC1] at hcall
 have HC := Lh hcall
 clear hcall
 refine HC.out.mono ?_
 rintro e W' ⟨na1, la1, nc1, lc1, rw', rfl, hL, hsub, hn, hl⟩
 have L9 := Lh (show Lv w MB 1 W' lvM1 rw' from hL)
 clear hL hn hl HC L
 obtain ⟨b1, hb1⟩ : ∃ b, b = W'.heap.size := ⟨_, rfl⟩
 have hA := L9.out.alloc #[.int .i64 0, .int .i64 0, .string (tx []), .slice na1 0 nc1, .int .i64 0, .int .i64 0, .int .i64 0, .bool false, .slice la1 0 lc1, .bool false] 33
 rw [← hb1] at hA
 unfold ansC
 go_upto_region 5 with fail
 rw [← hb1]
 generalize W'.alloc (.cells #[.int .i64 0, .int .i64 0, .string (tx []), .slice na1 0 nc1, .int .i64 0, .int .i64 0, .int .i64 0, .bool false, .slice la1 0 lc1, .bool false] 33) = W at *
 have L := Lh hA
 obtain ⟨rs, hrs⟩ : ∃ rs, rs = (b1, [.int .i64 0, .int .i64 0, .string (tx []), .slice na1 0 nc1, .int .i64 0, .int .i64 0, .int .i64 0, .bool false, .slice la1 0 lc1, .bool false]) :: rw' := ⟨_, rfl⟩
 have HRS0 : (b1, [.int .i64 0, .int .i64 0, .string (tx []), .slice na1 0 nc1, .int .i64 0, .int .i64 0, .int .i64 0, .bool false, .slice la1 0 lc1, .bool false]) ∈ rs := by rw [hrs]; exact List.mem_cons_self ..
 have HRS := Lh HRS0
 have L2 := Lh (show Lv w MB 1 W lvM1 rs from by rw [hrs]; exact L.out)
 clear L9 L HRS0 hrs hsub hA  hb1
 have L := L2
 clear L2
 go_wp2_with fail
 have hcall := lv_do L.out (by omega) lvC2 (by decide)
 rw [lvA2] at hcall
 simp only [lvC2] at hcall
 have HC := Lh hcall
 clear hcall
 refine HC.out.mono ?_
 rintro e W' ⟨na2, la2, nc2, lc2, rw', rfl, hL, hsub, hn, hl⟩
 have L9 := Lh (show Lv w MB 2 W' lvM2 rw' from hL)
 have hrows : (b1, [.int .i64 0, .int .i64 0, .string (tx []), .slice na1 0 nc1, .int .i64 0, .int .i64 0, .int .i64 0, .bool false, .slice la1 0 lc1, .bool false]) ∈ rw' := hsub _ HRS.out
 clear hL hn hl HC L
 obtain ⟨b2, hb2⟩ : ∃ b, b = W'.heap.size := ⟨_, rfl⟩
 have hA := L9.out.alloc #[.int .i64 0, .int .i64 0, .string (tx []), .slice na2 0 nc2, .int .i64 0, .int .i64 0, .int .i64 0, .bool false, .slice la2 0 lc2, .bool false] 33
 rw [← hb2] at hA
 unfold ansC
 go_upto_region 6 with fail
 rw [← hb2]
 generalize W'.alloc (.cells #[.int .i64 0, .int .i64 0, .string (tx []), .slice na2 0 nc2, .int .i64 0, .int .i64 0, .int .i64 0, .bool false, .slice la2 0 lc2, .bool false] 33) = W at *
 have L := Lh hA
 obtain ⟨rs, hrs⟩ : ∃ rs, rs = (b2, [.int .i64 0, .int .i64 0, .string (tx []), .slice na2 0 nc2, .int .i64 0, .int .i64 0, .int .i64 0, .bool false, .slice la2 0 lc2, .bool false]) :: rw' := ⟨_, rfl⟩
 have HRS0 : (b1, [.int .i64 0, .int .i64 0, .string (tx []), .slice na1 0 nc1, .int .i64 0, .int .i64 0, .int .i64 0, .bool false, .slice la1 0 lc1, .bool false]) ∈ rs ∧ (b2, [.int .i64 0, .int .i64 0, .string (tx []), .slice na2 0 nc2, .int .i64 0, .int .i64 0, .int .i64 0, .bool false, .slice la2 0 lc2, .bool false]) ∈ rs := ⟨by rw [hrs]; exact List.mem_cons_of_mem _ hrows, by rw [hrs]; exact List.mem_cons_self ..⟩
 have HRS := Lh HRS0
 have L2 := Lh (show Lv w MB 2 W lvM2 rs from by rw [hrs]; exact L.out)
 clear L9 L HRS0 hrs hsub hA hrows hb2
 try clear rw'
 have L := L2
 clear L2
 go_wp2_with fail
 have hcall := lv_do L.out (by omega) lvC3 (by decide)
 rw [lvA3] at hcall
 simp only [lvC3] at hcall
 have HC := Lh hcall
 clear hcall
 refine HC.out.mono ?_
 rintro e W' ⟨na3, la3, nc3, lc3, rw', rfl, hL, hsub, hn, hl⟩
 have L9 := Lh (show Lv w MB 3 W' lvM3 rw' from hL)
 have hrows : (b1, [.int .i64 0, .int .i64 0, .string (tx []), .slice na1 0 nc1, .int .i64 0, .int .i64 0, .int .i64 0, .bool false, .slice la1 0 lc1, .bool false]) ∈ rw' ∧ (b2, [.int .i64 0, .int .i64 0, .string (tx []), .slice na2 0 nc2, .int .i64 0, .int .i64 0, .int .i64 0, .bool false, .slice la2 0 lc2, .bool false]) ∈ rw' := ⟨hsub _ HRS.out.1, hsub _ HRS.out.2⟩
 clear hL hn hl HC L
 obtain ⟨b3, hb3⟩ : ∃ b, b = W'.heap.size := ⟨_, rfl⟩
 have hA := L9.out.alloc #[.int .i64 0, .int .i64 3, .string (tx []), .slice na3 0 nc3, .int .i64 0, .int .i64 0, .int .i64 0, .bool false, .slice la3 0 lc3, .bool false] 33
 rw [← hb3] at hA
 unfold ansC
 go_upto_region 7 with fail
 rw [← hb3]
 generalize W'.alloc (.cells #[.int .i64 0, .int .i64 3, .string (tx []), .slice na3 0 nc3, .int .i64 0, .int .i64 0, .int .i64 0, .bool false, .slice la3 0 lc3, .bool false] 33) = W at *
 have L := Lh hA
 obtain ⟨rs, hrs⟩ : ∃ rs, rs = (b3, [.int .i64 0, .int .i64 3, .string (tx []), .slice na3 0 nc3, .int .i64 0, .int .i64 0, .int .i64 0, .bool false, .slice la3 0 lc3, .bool false]) :: rw' := ⟨_, rfl⟩
 have HRS0 : (b1, [.int .i64 0, .int .i64 0, .string (tx []), .slice na1 0 nc1, .int .i64 0, .int .i64 0, .int .i64 0, .bool false, .slice la1 0 lc1, .bool false]) ∈ rs ∧ (b2, [.int .i64 0, .int .i64 0, .string (tx []), .slice na2 0 nc2, .int .i64 0, .int .i64 0, .int .i64 0, .bool false, .slice la2 0 lc2, .bool false]) ∈ rs ∧ (b3, [.int .i64 0, .int .i64 3, .string (tx []), .slice na3 0 nc3, .int .i64 0, .int .i64 0, .int .i64 0, .bool false, .slice la3 0 lc3, .bool false]) ∈ rs := ⟨by rw [hrs]; exact List.mem_cons_of_mem _ hrows.1, by rw [hrs]; exact List.mem_cons_of_mem _ hrows.2, by rw [hrs]; exact List.mem_cons_self ..⟩
 have HRS := Lh HRS0
 have L2 := Lh (show Lv w MB 3 W lvM3 rs from by rw [hrs]; exact L.out)
 clear L9 L HRS0 hrs hsub hA hrows hb3
 try clear rw'
 have L := L2
 clear L2
 go_wp2_with fail
 have hcall := lv_do L.out (by omega) lvC4 (by decide)
 rw [lvA4] at hcall
 simp only [lvC4] at hcall
 have HC := Lh hcall
 clear hcall
 refine HC.out.mono ?_
 rintro e W' ⟨na4, la4, nc4, lc4, rw', rfl, hL, hsub, hn, hl⟩
 have L9 := Lh (show Lv w MB 4 W' lvM4 rw' from hL)
 have hrows : (b1, [.int .i64 0, .int .i64 0, .string (tx []), .slice na1 0 nc1, .int .i64 0, .int .i64 0, .int .i64 0, .bool false, .slice la1 0 lc1, .bool false]) ∈ rw' ∧ (b2, [.int .i64 0, .int .i64 0, .string (tx []), .slice na2 0 nc2, .int .i64 0, .int .i64 0, .int .i64 0, .bool false, .slice la2 0 lc2, .bool false]) ∈ rw' ∧ (b3, [.int .i64 0, .int .i64 3, .string (tx []), .slice na3 0 nc3, .int .i64 0, .int .i64 0, .int .i64 0, .bool false, .slice la3 0 lc3, .bool false]) ∈ rw' := ⟨hsub _ HRS.out.1, hsub _ HRS.out.2.1, hsub _ HRS.out.2.2⟩
 clear hL hn hl HC L
 obtain ⟨b4, hb4⟩ : ∃ b, b = W'.heap.size := ⟨_, rfl⟩
 have hA := L9.out.alloc #[.int .i64 0, .int .i64 0, .string (tx []), .slice na4 0 nc4, .int .i64 2, .int .i64 1, .int .i64 2, .bool false, .slice la4 0 lc4, .bool false] 33
 rw [← hb4] at hA
 unfold ansC
 go_upto_region 8 with fail
 rw [← hb4]
 generalize W'.alloc (.cells #[.int .i64 0, .int .i64 0, .string (tx []), .slice na4 0 nc4, .int .i64 2, .int .i64 1, .int .i64 2, .bool false, .slice la4 0 lc4, .bool false] 33) = W at *
 have L := Lh hA
 obtain ⟨rs, hrs⟩ : ∃ rs, rs = (b4, [.int .i64 0, .int .i64 0, .string (tx []), .slice na4 0 nc4, .int .i64 2, .int .i64 1, .int .i64 2, .bool false, .slice la4 0 lc4, .bool false]) :: rw' := ⟨_, rfl⟩
 have HRS0 : (b1, [.int .i64 0, .int .i64 0, .string (tx []), .slice na1 0 nc1, .int .i64 0, .int .i64 0, .int .i64 0, .bool false, .slice la1 0 lc1, .bool false]) ∈ rs ∧ (b2, [.int .i64 0, .int .i64 0, .string (tx []), .slice na2 0 nc2, .int .i64 0, .int .i64 0, .int .i64 0, .bool false, .slice la2 0 lc2, .bool false]) ∈ rs ∧ (b3, [.int .i64 0, .int .i64 3, .string (tx []), .slice na3 0 nc3, .int .i64 0, .int .i64 0, .int .i64 0, .bool false, .slice la3 0 lc3, .bool false]) ∈ rs ∧ (b4, [.int .i64 0, .int .i64 0, .string (tx []), .slice na4 0 nc4, .int .i64 2, .int .i64 1, .int .i64 2, .bool false, .slice la4 0 lc4, .bool false]) ∈ rs := ⟨by rw [hrs]; exact List.mem_cons_of_mem _ hrows.1, by rw [hrs]; exact List.mem_cons_of_mem _ hrows.2.1, by rw [hrs]; exact List.mem_cons_of_mem _ hrows.2.2, by rw [hrs]; exact List.mem_cons_self ..⟩
 have HRS := Lh HRS0
 have L2 := Lh (show Lv w MB 4 W lvM4 rs from by rw [hrs]; exact L.out)
 clear L9 L HRS0 hrs hsub hA hrows hb4
 try clear rw'
 have L := L2
 clear L2
 go_wp2_with fail
 have hcall := lv_do L.out (by omega) lvC5 (by decide)
 rw [lvA5] at hcall
 simp only [lvC5] at hcall
 have HC := Lh hcall
 clear hcall
 refine HC.out.mono ?_
 rintro e W' ⟨na5, la5, nc5, lc5, rw', rfl, hL, hsub, hn, hl⟩
 have L9 := Lh (show Lv w MB 5 W' lvM5 rw' from hL)
 have hrows : (b1, [.int .i64 0, .int .i64 0, .string (tx []), .slice na1 0 nc1, .int .i64 0, .int .i64 0, .int .i64 0, .bool false, .slice la1 0 lc1, .bool false]) ∈ rw' ∧ (b2, [.int .i64 0, .int .i64 0, .string (tx []), .slice na2 0 nc2, .int .i64 0, .int .i64 0, .int .i64 0, .bool false, .slice la2 0 lc2, .bool false]) ∈ rw' ∧ (b3, [.int .i64 0, .int .i64 3, .string (tx []), .slice na3 0 nc3, .int .i64 0, .int .i64 0, .int .i64 0, .bool false, .slice la3 0 lc3, .bool false]) ∈ rw' ∧ (b4, [.int .i64 0, .int .i64 0, .string (tx []), .slice na4 0 nc4, .int .i64 2, .int .i64 1, .int .i64 2, .bool false, .slice la4 0 lc4, .bool false]) ∈ rw' := ⟨hsub _ HRS.out.1, hsub _ HRS.out.2.1, hsub _ HRS.out.2.2.1, hsub _ HRS.out.2.2.2⟩
 clear hL hn hl HC L
 obtain ⟨b5, hb5⟩ : ∃ b, b = W'.heap.size := ⟨_, rfl⟩
 have hA := L9.out.alloc #[.int .i64 0, .int .i64 0, .string (tx []), .slice na5 0 nc5, .int .i64 0, .int .i64 0, .int .i64 0, .bool false, .slice la5 0 lc5, .bool false] 33
 rw [← hb5] at hA
 unfold ansC
 go_upto_region 9 with fail
 rw [← hb5]
 generalize W'.alloc (.cells #[.int .i64 0, .int .i64 0, .string (tx []), .slice na5 0 nc5, .int .i64 0, .int .i64 0, .int .i64 0, .bool false, .slice la5 0 lc5, .bool false] 33) = W at *
 have L := Lh hA
 obtain ⟨rs, hrs⟩ : ∃ rs, rs = (b5, [.int .i64 0, .int .i64 0, .string (tx []), .slice na5 0 nc5, .int .i64 0, .int .i64 0, .int .i64 0, .bool false, .slice la5 0 lc5, .bool false]) :: rw' := ⟨_, rfl⟩
 have HRS0 : (b1, [.int .i64 0, .int .i64 0, .string (tx []), .slice na1 0 nc1, .int .i64 0, .int .i64 0, .int .i64 0, .bool false, .slice la1 0 lc1, .bool false]) ∈ rs ∧ (b2, [.int .i64 0, .int .i64 0, .string (tx []), .slice na2 0 nc2, .int .i64 0, .int .i64 0, .int .i64 0, .bool false, .slice la2 0 lc2, .bool false]) ∈ rs ∧ (b3, [.int .i64 0, .int .i64 3, .string (tx []), .slice na3 0 nc3, .int .i64 0, .int .i64 0, .int .i64 0, .bool false, .slice la3 0 lc3, .bool false]) ∈ rs ∧ (b4, [.int .i64 0, .int .i64 0, .string (tx []), .slice na4 0 nc4, .int .i64 2, .int .i64 1, .int .i64 2, .bool false, .slice la4 0 lc4, .bool false]) ∈ rs ∧ (b5, [.int .i64 0, .int .i64 0, .string (tx []), .slice na5 0 nc5, .int .i64 0, .int .i64 0, .int .i64 0, .bool false, .slice la5 0 lc5, .bool false]) ∈ rs := ⟨by rw [hrs]; exact List.mem_cons_of_mem _ hrows.1, by rw [hrs]; exact List.mem_cons_of_mem _ hrows.2.1, by rw [hrs]; exact List.mem_cons_of_mem _ hrows.2.2.1, by rw [hrs]; exact List.mem_cons_of_mem _ hrows.2.2.2, by rw [hrs]; exact List.mem_cons_self ..⟩
 have HRS := Lh HRS0
 have L2 := Lh (show Lv w MB 5 W lvM5 rs from by rw [hrs]; exact L.out)
 clear L9 L HRS0 hrs hsub hA hrows hb5
 try clear rw'
 have L := L2
 clear L2
 go_wp2_with fail
 have hcall := lv_do L.out (by omega) lvC6 (by decide)
 rw [lvA6] at hcall
 simp only [lvC6] at hcall
 have HC := Lh hcall
 clear hcall
 refine HC.out.mono ?_
 rintro e W' ⟨na6, la6, nc6, lc6, rw', rfl, hL, hsub, hn, hl⟩
 have L9 := Lh (show Lv w MB 6 W' lvM6 rw' from hL)
 have hrows : (b1, [.int .i64 0, .int .i64 0, .string (tx []), .slice na1 0 nc1, .int .i64 0, .int .i64 0, .int .i64 0, .bool false, .slice la1 0 lc1, .bool false]) ∈ rw' ∧ (b2, [.int .i64 0, .int .i64 0, .string (tx []), .slice na2 0 nc2, .int .i64 0, .int .i64 0, .int .i64 0, .bool false, .slice la2 0 lc2, .bool false]) ∈ rw' ∧ (b3, [.int .i64 0, .int .i64 3, .string (tx []), .slice na3 0 nc3, .int .i64 0, .int .i64 0, .int .i64 0, .bool false, .slice la3 0 lc3, .bool false]) ∈ rw' ∧ (b4, [.int .i64 0, .int .i64 0, .string (tx []), .slice na4 0 nc4, .int .i64 2, .int .i64 1, .int .i64 2, .bool false, .slice la4 0 lc4, .bool false]) ∈ rw' ∧ (b5, [.int .i64 0, .int .i64 0, .string (tx []), .slice na5 0 nc5, .int .i64 0, .int .i64 0, .int .i64 0, .bool false, .slice la5 0 lc5, .bool false]) ∈ rw' := ⟨hsub _ HRS.out.1, hsub _ HRS.out.2.1, hsub _ HRS.out.2.2.1, hsub _ HRS.out.2.2.2.1, hsub _ HRS.out.2.2.2.2⟩
 clear hL hn hl HC L hsub HRS
 have HRS := Lh hrows
 have L := L9
 clear L9 hrows
 go_upto_region 10 with fail
 go_wp2_with fail
 have hcall := lv_do L.out (by omega) lvC7 (by decide)
 rw [lvA7] at hcall
 simp only [lvC7] at hcall
 have HC := Lh hcall
 clear hcall
 refine HC.out.mono ?_
 rintro e W' ⟨na7, la7, nc7, lc7, rw', rfl, hL, hsub, hn, hl⟩
 have L9 := Lh (show Lv w MB 7 W' lvM7 rw' from hL)
 have hrows : (b1, [.int .i64 0, .int .i64 0, .string (tx []), .slice na1 0 nc1, .int .i64 0, .int .i64 0, .int .i64 0, .bool false, .slice la1 0 lc1, .bool false]) ∈ rw' ∧ (b2, [.int .i64 0, .int .i64 0, .string (tx []), .slice na2 0 nc2, .int .i64 0, .int .i64 0, .int .i64 0, .bool false, .slice la2 0 lc2, .bool false]) ∈ rw' ∧ (b3, [.int .i64 0, .int .i64 3, .string (tx []), .slice na3 0 nc3, .int .i64 0, .int .i64 0, .int .i64 0, .bool false, .slice la3 0 lc3, .bool false]) ∈ rw' ∧ (b4, [.int .i64 0, .int .i64 0, .string (tx []), .slice na4 0 nc4, .int .i64 2, .int .i64 1, .int .i64 2, .bool false, .slice la4 0 lc4, .bool false]) ∈ rw' ∧ (b5, [.int .i64 0, .int .i64 0, .string (tx []), .slice na5 0 nc5, .int .i64 0, .int .i64 0, .int .i64 0, .bool false, .slice la5 0 lc5, .bool false]) ∈ rw' := ⟨hsub _ HRS.out.1, hsub _ HRS.out.2.1, hsub _ HRS.out.2.2.1, hsub _ HRS.out.2.2.2.1, hsub _ HRS.out.2.2.2.2⟩
 clear hL hn hl HC L
 obtain ⟨b7, hb7⟩ : ∃ b, b = W'.heap.size := ⟨_, rfl⟩
 have hA := L9.out.alloc #[.int .i64 0, .int .i64 0, .string (tx []), .slice na7 0 nc7, .int .i64 0, .int .i64 0, .int .i64 0, .bool false, .slice la7 0 lc7, .bool false] 33
 rw [← hb7] at hA
 unfold ansC
 go_upto_region 11 with fail
 rw [← hb7]
 generalize W'.alloc (.cells #[.int .i64 0, .int .i64 0, .string (tx []), .slice na7 0 nc7, .int .i64 0, .int .i64 0, .int .i64 0, .bool false, .slice la7 0 lc7, .bool false] 33) = W at *
 have L := Lh hA
 obtain ⟨rs, hrs⟩ : ∃ rs, rs = (b7, [.int .i64 0, .int .i64 0, .string (tx []), .slice na7 0 nc7, .int .i64 0, .int .i64 0, .int .i64 0, .bool false, .slice la7 0 lc7, .bool false]) :: rw' := ⟨_, rfl⟩
 have HRS0 : (b1, [.int .i64 0, .int .i64 0, .string (tx []), .slice na1 0 nc1, .int .i64 0, .int .i64 0, .int .i64 0, .bool false, .slice la1 0 lc1, .bool false]) ∈ rs ∧ (b2, [.int .i64 0, .int .i64 0, .string (tx []), .slice na2 0 nc2, .int .i64 0, .int .i64 0, .int .i64 0, .bool false, .slice la2 0 lc2, .bool false]) ∈ rs ∧ (b3, [.int .i64 0, .int .i64 3, .string (tx []), .slice na3 0 nc3, .int .i64 0, .int .i64 0, .int .i64 0, .bool false, .slice la3 0 lc3, .bool false]) ∈ rs ∧ (b4, [.int .i64 0, .int .i64 0, .string (tx []), .slice na4 0 nc4, .int .i64 2, .int .i64 1, .int .i64 2, .bool false, .slice la4 0 lc4, .bool false]) ∈ rs ∧ (b5, [.int .i64 0, .int .i64 0, .string (tx []), .slice na5 0 nc5, .int .i64 0, .int .i64 0, .int .i64 0, .bool false, .slice la5 0 lc5, .bool false]) ∈ rs ∧ (b7, [.int .i64 0, .int .i64 0, .string (tx []), .slice na7 0 nc7, .int .i64 0, .int .i64 0, .int .i64 0, .bool false, .slice la7 0 lc7, .bool false]) ∈ rs := ⟨by rw [hrs]; exact List.mem_cons_of_mem _ hrows.1, by rw [hrs]; exact List.mem_cons_of_mem _ hrows.2.1, by rw [hrs]; exact List.mem_cons_of_mem _ hrows.2.2.1, by rw [hrs]; exact List.mem_cons_of_mem _ hrows.2.2.2.1, by rw [hrs]; exact List.mem_cons_of_mem _ hrows.2.2.2.2, by rw [hrs]; exact List.mem_cons_self ..⟩
 have HRS := Lh HRS0
 have L2 := Lh (show Lv w MB 7 W lvM7 rs from by rw [hrs]; exact L.out)
 clear L9 L HRS0 hrs hsub hA hrows hb7
 try clear rw'
 have L := L2
 clear L2
 go_wp2_with fail
 have hcall := lv_do L.out (by omega) lvC8 (by decide)
 rw [lvA8] at hcall
 simp only [lvC8] at hcall
 have HC := Lh hcall
 clear hcall
 refine HC.out.mono ?_
 rintro e W' ⟨na8, la8, nc8, lc8, rw', rfl, hL, hsub, hn, hl⟩
 have L9 := Lh (show Lv w MB 8 W' lvM8 rw' from hL)
 have HNS := Lh (show LsIn rw' (.slice na8 1 nc8) [.string ⟨#[103]⟩] from hn)
 have hrows : (b1, [.int .i64 0, .int .i64 0, .string (tx []), .slice na1 0 nc1, .int .i64 0, .int .i64 0, .int .i64 0, .bool false, .slice la1 0 lc1, .bool false]) ∈ rw' ∧ (b2, [.int .i64 0, .int .i64 0, .string (tx []), .slice na2 0 nc2, .int .i64 0, .int .i64 0, .int .i64 0, .bool false, .slice la2 0 lc2, .bool false]) ∈ rw' ∧ (b3, [.int .i64 0, .int .i64 3, .string (tx []), .slice na3 0 nc3, .int .i64 0, .int .i64 0, .int .i64 0, .bool false, .slice la3 0 lc3, .bool false]) ∈ rw' ∧ (b4, [.int .i64 0, .int .i64 0, .string (tx []), .slice na4 0 nc4, .int .i64 2, .int .i64 1, .int .i64 2, .bool false, .slice la4 0 lc4, .bool false]) ∈ rw' ∧ (b5, [.int .i64 0, .int .i64 0, .string (tx []), .slice na5 0 nc5, .int .i64 0, .int .i64 0, .int .i64 0, .bool false, .slice la5 0 lc5, .bool false]) ∈ rw' ∧ (b7, [.int .i64 0, .int .i64 0, .string (tx []), .slice na7 0 nc7, .int .i64 0, .int .i64 0, .int .i64 0, .bool false, .slice la7 0 lc7, .bool false]) ∈ rw' := ⟨hsub _ HRS.out.1, hsub _ HRS.out.2.1, hsub _ HRS.out.2.2.1, hsub _ HRS.out.2.2.2.1, hsub _ HRS.out.2.2.2.2.1, hsub _ HRS.out.2.2.2.2.2⟩
 clear hL hn hl HC L
 obtain ⟨b8, hb8⟩ : ∃ b, b = W'.heap.size := ⟨_, rfl⟩
 have hA := L9.out.alloc #[.int .i64 0, .int .i64 0, .string (tx []), .slice na8 1 nc8, .int .i64 0, .int .i64 0, .int .i64 0, .bool false, .slice la8 0 lc8, .bool false] 33
 rw [← hb8] at hA
 unfold ansC
 go_upto_region 12 with fail
 rw [← hb8]
 generalize W'.alloc (.cells #[.int .i64 0, .int .i64 0, .string (tx []), .slice na8 1 nc8, .int .i64 0, .int .i64 0, .int .i64 0, .bool false, .slice la8 0 lc8, .bool false] 33) = W at *
 have L := Lh hA
 obtain ⟨rs, hrs⟩ : ∃ rs, rs = (b8, [.int .i64 0, .int .i64 0, .string (tx []), .slice na8 1 nc8, .int .i64 0, .int .i64 0, .int .i64 0, .bool false, .slice la8 0 lc8, .bool false]) :: rw' := ⟨_, rfl⟩
 have HRS0 : (b1, [.int .i64 0, .int .i64 0, .string (tx []), .slice na1 0 nc1, .int .i64 0, .int .i64 0, .int .i64 0, .bool false, .slice la1 0 lc1, .bool false]) ∈ rs ∧ (b2, [.int .i64 0, .int .i64 0, .string (tx []), .slice na2 0 nc2, .int .i64 0, .int .i64 0, .int .i64 0, .bool false, .slice la2 0 lc2, .bool false]) ∈ rs ∧ (b3, [.int .i64 0, .int .i64 3, .string (tx []), .slice na3 0 nc3, .int .i64 0, .int .i64 0, .int .i64 0, .bool false, .slice la3 0 lc3, .bool false]) ∈ rs ∧ (b4, [.int .i64 0, .int .i64 0, .string (tx []), .slice na4 0 nc4, .int .i64 2, .int .i64 1, .int .i64 2, .bool false, .slice la4 0 lc4, .bool false]) ∈ rs ∧ (b5, [.int .i64 0, .int .i64 0, .string (tx []), .slice na5 0 nc5, .int .i64 0, .int .i64 0, .int .i64 0, .bool false, .slice la5 0 lc5, .bool false]) ∈ rs ∧ (b7, [.int .i64 0, .int .i64 0, .string (tx []), .slice na7 0 nc7, .int .i64 0, .int .i64 0, .int .i64 0, .bool false, .slice la7 0 lc7, .bool false]) ∈ rs ∧ (b8, [.int .i64 0, .int .i64 0, .string (tx []), .slice na8 1 nc8, .int .i64 0, .int .i64 0, .int .i64 0, .bool false, .slice la8 0 lc8, .bool false]) ∈ rs := ⟨by rw [hrs]; exact List.mem_cons_of_mem _ hrows.1, by rw [hrs]; exact List.mem_cons_of_mem _ hrows.2.1, by rw [hrs]; exact List.mem_cons_of_mem _ hrows.2.2.1, by rw [hrs]; exact List.mem_cons_of_mem _ hrows.2.2.2.1, by rw [hrs]; exact List.mem_cons_of_mem _ hrows.2.2.2.2.1, by rw [hrs]; exact List.mem_cons_of_mem _ hrows.2.2.2.2.2, by rw [hrs]; exact List.mem_cons_self ..⟩
 have HNS2 := Lh (HNS.out.more (rows' := rs) (fun p hp => by rw [hrs]; exact List.mem_cons_of_mem _ hp))
 clear HNS
 have HNS := HNS2
 clear HNS2
 have HRS := Lh HRS0
 have L2 := Lh (show Lv w MB 8 W lvM8 rs from by rw [hrs]; exact L.out)
 clear L9 L HRS0 hrs hsub hA hrows hb8
 try clear rw'
 have L := L2
 clear L2
 go_wp2_with fail
 have hcall := lv_do L.out (by omega) lvC9 (by decide)
 rw [lvA9] at hcall
 simp only [lvC9] at hcall
 have HC := Lh hcall
 clear hcall
 refine HC.out.mono ?_
 rintro e W' ⟨na9, la9, nc9, lc9, rw', rfl, hL, hsub, hn, hl⟩
 have L9 := Lh (show Lv w MB 9 W' lvM9 rw' from hL)
 have hrows : (b1, [.int .i64 0, .int .i64 0, .string (tx []), .slice na1 0 nc1, .int .i64 0, .int .i64 0, .int .i64 0, .bool false, .slice la1 0 lc1, .bool false]) ∈ rw' ∧ (b2, [.int .i64 0, .int .i64 0, .string (tx []), .slice na2 0 nc2, .int .i64 0, .int .i64 0, .int .i64 0, .bool false, .slice la2 0 lc2, .bool false]) ∈ rw' ∧ (b3, [.int .i64 0, .int .i64 3, .string (tx []), .slice na3 0 nc3, .int .i64 0, .int .i64 0, .int .i64 0, .bool false, .slice la3 0 lc3, .bool false]) ∈ rw' ∧ (b4, [.int .i64 0, .int .i64 0, .string (tx []), .slice na4 0 nc4, .int .i64 2, .int .i64 1, .int .i64 2, .bool false, .slice la4 0 lc4, .bool false]) ∈ rw' ∧ (b5, [.int .i64 0, .int .i64 0, .string (tx []), .slice na5 0 nc5, .int .i64 0, .int .i64 0, .int .i64 0, .bool false, .slice la5 0 lc5, .bool false]) ∈ rw' ∧ (b7, [.int .i64 0, .int .i64 0, .string (tx []), .slice na7 0 nc7, .int .i64 0, .int .i64 0, .int .i64 0, .bool false, .slice la7 0 lc7, .bool false]) ∈ rw' ∧ (b8, [.int .i64 0, .int .i64 0, .string (tx []), .slice na8 1 nc8, .int .i64 0, .int .i64 0, .int .i64 0, .bool false, .slice la8 0 lc8, .bool false]) ∈ rw' := ⟨hsub _ HRS.out.1, hsub _ HRS.out.2.1, hsub _ HRS.out.2.2.1, hsub _ HRS.out.2.2.2.1, hsub _ HRS.out.2.2.2.2.1, hsub _ HRS.out.2.2.2.2.2.1, hsub _ HRS.out.2.2.2.2.2.2⟩
 have HNS2 := Lh (HNS.out.more hsub)
 clear HNS
 have HNS := HNS2
 clear HNS2
 clear hL hn hl HC L hsub HRS
 have HRS := Lh hrows
 have L := L9
 clear L9 hrows
 go_upto_region 13 with fail
 go_wp2_with fail
 have hcall := lv_do L.out (by omega) lvC10 (by decide)
 rw [lvA10] at hcall
 simp only [lvC10] at hcall
 have HC := Lh hcall
 clear hcall
 refine HC.out.mono ?_
 rintro e W' ⟨na10, la10, nc10, lc10, rw', rfl, hL, hsub, hn, hl⟩
 have L9 := Lh (show Lv w MB 10 W' lvM10 rw' from hL)
 have hrows : (b1, [.int .i64 0, .int .i64 0, .string (tx []), .slice na1 0 nc1, .int .i64 0, .int .i64 0, .int .i64 0, .bool false, .slice la1 0 lc1, .bool false]) ∈ rw' ∧ (b2, [.int .i64 0, .int .i64 0, .string (tx []), .slice na2 0 nc2, .int .i64 0, .int .i64 0, .int .i64 0, .bool false, .slice la2 0 lc2, .bool false]) ∈ rw' ∧ (b3, [.int .i64 0, .int .i64 3, .string (tx []), .slice na3 0 nc3, .int .i64 0, .int .i64 0, .int .i64 0, .bool false, .slice la3 0 lc3, .bool false]) ∈ rw' ∧ (b4, [.int .i64 0, .int .i64 0, .string (tx []), .slice na4 0 nc4, .int .i64 2, .int .i64 1, .int .i64 2, .bool false, .slice la4 0 lc4, .bool false]) ∈ rw' ∧ (b5, [.int .i64 0, .int .i64 0, .string (tx []), .slice na5 0 nc5, .int .i64 0, .int .i64 0, .int .i64 0, .bool false, .slice la5 0 lc5, .bool false]) ∈ rw' ∧ (b7, [.int .i64 0, .int .i64 0, .string (tx []), .slice na7 0 nc7, .int .i64 0, .int .i64 0, .int .i64 0, .bool false, .slice la7 0 lc7, .bool false]) ∈ rw' ∧ (b8, [.int .i64 0, .int .i64 0, .string (tx []), .slice na8 1 nc8, .int .i64 0, .int .i64 0, .int .i64 0, .bool false, .slice la8 0 lc8, .bool false]) ∈ rw' := ⟨hsub _ HRS.out.1, hsub _ HRS.out.2.1, hsub _ HRS.out.2.2.1, hsub _ HRS.out.2.2.2.1, hsub _ HRS.out.2.2.2.2.1, hsub _ HRS.out.2.2.2.2.2.1, hsub _ HRS.out.2.2.2.2.2.2⟩
 have HNS2 := Lh (HNS.out.more hsub)
 clear HNS
 have HNS := HNS2
 clear HNS2
 clear hL hn hl HC L hsub HRS
 have HRS := Lh hrows
 have L := L9
 clear L9 hrows
 go_upto_region 14 with fail
 go_wp2_with fail
 have hcall := lv_do L.out (by omega) lvC11 (by decide)
 rw [lvA11] at hcall
 simp only [lvC11] at hcall
 have HC := Lh hcall
 clear hcall
 refine HC.out.mono ?_
 rintro e W' ⟨na11, la11, nc11, lc11, rw', rfl, hL, hsub, hn, hl⟩
 have L9 := Lh (show Lv w MB 11 W' lvM11 rw' from hL)
 have hrows : (b1, [.int .i64 0, .int .i64 0, .string (tx []), .slice na1 0 nc1, .int .i64 0, .int .i64 0, .int .i64 0, .bool false, .slice la1 0 lc1, .bool false]) ∈ rw' ∧ (b2, [.int .i64 0, .int .i64 0, .string (tx []), .slice na2 0 nc2, .int .i64 0, .int .i64 0, .int .i64 0, .bool false, .slice la2 0 lc2, .bool false]) ∈ rw' ∧ (b3, [.int .i64 0, .int .i64 3, .string (tx []), .slice na3 0 nc3, .int .i64 0, .int .i64 0, .int .i64 0, .bool false, .slice la3 0 lc3, .bool false]) ∈ rw' ∧ (b4, [.int .i64 0, .int .i64 0, .string (tx []), .slice na4 0 nc4, .int .i64 2, .int .i64 1, .int .i64 2, .bool false, .slice la4 0 lc4, .bool false]) ∈ rw' ∧ (b5, [.int .i64 0, .int .i64 0, .string (tx []), .slice na5 0 nc5, .int .i64 0, .int .i64 0, .int .i64 0, .bool false, .slice la5 0 lc5, .bool false]) ∈ rw' ∧ (b7, [.int .i64 0, .int .i64 0, .string (tx []), .slice na7 0 nc7, .int .i64 0, .int .i64 0, .int .i64 0, .bool false, .slice la7 0 lc7, .bool false]) ∈ rw' ∧ (b8, [.int .i64 0, .int .i64 0, .string (tx []), .slice na8 1 nc8, .int .i64 0, .int .i64 0, .int .i64 0, .bool false, .slice la8 0 lc8, .bool false]) ∈ rw' := ⟨hsub _ HRS.out.1, hsub _ HRS.out.2.1, hsub _ HRS.out.2.2.1, hsub _ HRS.out.2.2.2.1, hsub _ HRS.out.2.2.2.2.1, hsub _ HRS.out.2.2.2.2.2.1, hsub _ HRS.out.2.2.2.2.2.2⟩
 have HNS2 := Lh (HNS.out.more hsub)
 clear HNS
 have HNS := HNS2
 clear HNS2
 clear hL hn hl HC L
 obtain ⟨b11, hb11⟩ : ∃ b, b = W'.heap.size := ⟨_, rfl⟩
 have hA := L9.out.alloc #[.int .i64 0, .int .i64 0, .string (tx [121, 122]), .slice na11 0 nc11, .int .i64 0, .int .i64 0, .int .i64 0, .bool false, .slice la11 0 lc11, .bool false] 33
 rw [← hb11] at hA
 unfold ansC
 go_upto_region 15 with fail
 rw [← hb11]
 generalize W'.alloc (.cells #[.int .i64 0, .int .i64 0, .string (tx [121, 122]), .slice na11 0 nc11, .int .i64 0, .int .i64 0, .int .i64 0, .bool false, .slice la11 0 lc11, .bool false] 33) = W at *
 have L := Lh hA
 obtain ⟨rs, hrs⟩ : ∃ rs, rs = (b11, [.int .i64 0, .int .i64 0, .string (tx [121, 122]), .slice na11 0 nc11, .int .i64 0, .int .i64 0, .int .i64 0, .bool false, .slice la11 0 lc11, .bool false]) :: rw' := ⟨_, rfl⟩
 have HRS0 : (b1, [.int .i64 0, .int .i64 0, .string (tx []), .slice na1 0 nc1, .int .i64 0, .int .i64 0, .int .i64 0, .bool false, .slice la1 0 lc1, .bool false]) ∈ rs ∧ (b2, [.int .i64 0, .int .i64 0, .string (tx []), .slice na2 0 nc2, .int .i64 0, .int .i64 0, .int .i64 0, .bool false, .slice la2 0 lc2, .bool false]) ∈ rs ∧ (b3, [.int .i64 0, .int .i64 3, .string (tx []), .slice na3 0 nc3, .int .i64 0, .int .i64 0, .int .i64 0, .bool false, .slice la3 0 lc3, .bool false]) ∈ rs ∧ (b4, [.int .i64 0, .int .i64 0, .string (tx []), .slice na4 0 nc4, .int .i64 2, .int .i64 1, .int .i64 2, .bool false, .slice la4 0 lc4, .bool false]) ∈ rs ∧ (b5, [.int .i64 0, .int .i64 0, .string (tx []), .slice na5 0 nc5, .int .i64 0, .int .i64 0, .int .i64 0, .bool false, .slice la5 0 lc5, .bool false]) ∈ rs ∧ (b7, [.int .i64 0, .int .i64 0, .string (tx []), .slice na7 0 nc7, .int .i64 0, .int .i64 0, .int .i64 0, .bool false, .slice la7 0 lc7, .bool false]) ∈ rs ∧ (b8, [.int .i64 0, .int .i64 0, .string (tx []), .slice na8 1 nc8, .int .i64 0, .int .i64 0, .int .i64 0, .bool false, .slice la8 0 lc8, .bool false]) ∈ rs ∧ (b11, [.int .i64 0, .int .i64 0, .string (tx [121, 122]), .slice na11 0 nc11, .int .i64 0, .int .i64 0, .int .i64 0, .bool false, .slice la11 0 lc11, .bool false]) ∈ rs := ⟨by rw [hrs]; exact List.mem_cons_of_mem _ hrows.1, by rw [hrs]; exact List.mem_cons_of_mem _ hrows.2.1, by rw [hrs]; exact List.mem_cons_of_mem _ hrows.2.2.1, by rw [hrs]; exact List.mem_cons_of_mem _ hrows.2.2.2.1, by rw [hrs]; exact List.mem_cons_of_mem _ hrows.2.2.2.2.1, by rw [hrs]; exact List.mem_cons_of_mem _ hrows.2.2.2.2.2.1, by rw [hrs]; exact List.mem_cons_of_mem _ hrows.2.2.2.2.2.2, by rw [hrs]; exact List.mem_cons_self ..⟩
 have HNS2 := Lh (HNS.out.more (rows' := rs) (fun p hp => by rw [hrs]; exact List.mem_cons_of_mem _ hp))
 clear HNS
 have HNS := HNS2
 clear HNS2
 have HRS := Lh HRS0
 have L2 := Lh (show Lv w MB 11 W lvM11 rs from by rw [hrs]; exact L.out)
 clear L9 L HRS0 hrs hsub hA hrows hb11
 try clear rw'
 have L := L2
 clear L2
 go_wp2_with fail
 have hcall := lv_do L.out (by omega) lvC12 (by decide)
 rw [lvA12] at hcall
 simp only [lvC12] at hcall
 have HC := Lh hcall
 clear hcall
 refine HC.out.mono ?_
 rintro e W' ⟨na12, la12, nc12, lc12, rw', rfl, hL, hsub, hn, hl⟩
 have L9 := Lh (show Lv w MB 12 W' lvM12 rw' from hL)
 have hrows : (b1, [.int .i64 0, .int .i64 0, .string (tx []), .slice na1 0 nc1, .int .i64 0, .int .i64 0, .int .i64 0, .bool false, .slice la1 0 lc1, .bool false]) ∈ rw' ∧ (b2, [.int .i64 0, .int .i64 0, .string (tx []), .slice na2 0 nc2, .int .i64 0, .int .i64 0, .int .i64 0, .bool false, .slice la2 0 lc2, .bool false]) ∈ rw' ∧ (b3, [.int .i64 0, .int .i64 3, .string (tx []), .slice na3 0 nc3, .int .i64 0, .int .i64 0, .int .i64 0, .bool false, .slice la3 0 lc3, .bool false]) ∈ rw' ∧ (b4, [.int .i64 0, .int .i64 0, .string (tx []), .slice na4 0 nc4, .int .i64 2, .int .i64 1, .int .i64 2, .bool false, .slice la4 0 lc4, .bool false]) ∈ rw' ∧ (b5, [.int .i64 0, .int .i64 0, .string (tx []), .slice na5 0 nc5, .int .i64 0, .int .i64 0, .int .i64 0, .bool false, .slice la5 0 lc5, .bool false]) ∈ rw' ∧ (b7, [.int .i64 0, .int .i64 0, .string (tx []), .slice na7 0 nc7, .int .i64 0, .int .i64 0, .int .i64 0, .bool false, .slice la7 0 lc7, .bool false]) ∈ rw' ∧ (b8, [.int .i64 0, .int .i64 0, .string (tx []), .slice na8 1 nc8, .int .i64 0, .int .i64 0, .int .i64 0, .bool false, .slice la8 0 lc8, .bool false]) ∈ rw' ∧ (b11, [.int .i64 0, .int .i64 0, .string (tx [121, 122]), .slice na11 0 nc11, .int .i64 0, .int .i64 0, .int .i64 0, .bool false, .slice la11 0 lc11, .bool false]) ∈ rw' := ⟨hsub _ HRS.out.1, hsub _ HRS.out.2.1, hsub _ HRS.out.2.2.1, hsub _ HRS.out.2.2.2.1, hsub _ HRS.out.2.2.2.2.1, hsub _ HRS.out.2.2.2.2.2.1, hsub _ HRS.out.2.2.2.2.2.2.1, hsub _ HRS.out.2.2.2.2.2.2.2⟩
 have HNS2 := Lh (HNS.out.more hsub)
 clear HNS
 have HNS := HNS2
 clear HNS2
 clear hL hn hl HC L
 obtain ⟨b12, hb12⟩ : ∃ b, b = W'.heap.size := ⟨_, rfl⟩
 have hA := L9.out.alloc #[.int .i64 216, .int .i64 0, .string (tx []), .slice na12 0 nc12, .int .i64 0, .int .i64 0, .int .i64 0, .bool false, .slice la12 0 lc12, .bool false] 33
 rw [← hb12] at hA
 unfold ansC
 go_upto_region 16 with fail
 rw [← hb12]
 generalize W'.alloc (.cells #[.int .i64 216, .int .i64 0, .string (tx []), .slice na12 0 nc12, .int .i64 0, .int .i64 0, .int .i64 0, .bool false, .slice la12 0 lc12, .bool false] 33) = W at *
 have L := Lh hA
 obtain ⟨rs, hrs⟩ : ∃ rs, rs = (b12, [.int .i64 216, .int .i64 0, .string (tx []), .slice na12 0 nc12, .int .i64 0, .int .i64 0, .int .i64 0, .bool false, .slice la12 0 lc12, .bool false]) :: rw' := ⟨_, rfl⟩
 have HRS0 : (b1, [.int .i64 0, .int .i64 0, .string (tx []), .slice na1 0 nc1, .int .i64 0, .int .i64 0, .int .i64 0, .bool false, .slice la1 0 lc1, .bool false]) ∈ rs ∧ (b2, [.int .i64 0, .int .i64 0, .string (tx []), .slice na2 0 nc2, .int .i64 0, .int .i64 0, .int .i64 0, .bool false, .slice la2 0 lc2, .bool false]) ∈ rs ∧ (b3, [.int .i64 0, .int .i64 3, .string (tx []), .slice na3 0 nc3, .int .i64 0, .int .i64 0, .int .i64 0, .bool false, .slice la3 0 lc3, .bool false]) ∈ rs ∧ (b4, [.int .i64 0, .int .i64 0, .string (tx []), .slice na4 0 nc4, .int .i64 2, .int .i64 1, .int .i64 2, .bool false, .slice la4 0 lc4, .bool false]) ∈ rs ∧ (b5, [.int .i64 0, .int .i64 0, .string (tx []), .slice na5 0 nc5, .int .i64 0, .int .i64 0, .int .i64 0, .bool false, .slice la5 0 lc5, .bool false]) ∈ rs ∧ (b7, [.int .i64 0, .int .i64 0, .string (tx []), .slice na7 0 nc7, .int .i64 0, .int .i64 0, .int .i64 0, .bool false, .slice la7 0 lc7, .bool false]) ∈ rs ∧ (b8, [.int .i64 0, .int .i64 0, .string (tx []), .slice na8 1 nc8, .int .i64 0, .int .i64 0, .int .i64 0, .bool false, .slice la8 0 lc8, .bool false]) ∈ rs ∧ (b11, [.int .i64 0, .int .i64 0, .string (tx [121, 122]), .slice na11 0 nc11, .int .i64 0, .int .i64 0, .int .i64 0, .bool false, .slice la11 0 lc11, .bool false]) ∈ rs ∧ (b12, [.int .i64 216, .int .i64 0, .string (tx []), .slice na12 0 nc12, .int .i64 0, .int .i64 0, .int .i64 0, .bool false, .slice la12 0 lc12, .bool false]) ∈ rs := ⟨by rw [hrs]; exact List.mem_cons_of_mem _ hrows.1, by rw [hrs]; exact List.mem_cons_of_mem _ hrows.2.1, by rw [hrs]; exact List.mem_cons_of_mem _ hrows.2.2.1, by rw [hrs]; exact List.mem_cons_of_mem _ hrows.2.2.2.1, by rw [hrs]; exact List.mem_cons_of_mem _ hrows.2.2.2.2.1, by rw [hrs]; exact List.mem_cons_of_mem _ hrows.2.2.2.2.2.1, by rw [hrs]; exact List.mem_cons_of_mem _ hrows.2.2.2.2.2.2.1, by rw [hrs]; exact List.mem_cons_of_mem _ hrows.2.2.2.2.2.2.2, by rw [hrs]; exact List.mem_cons_self ..⟩
 have HNS2 := Lh (HNS.out.more (rows' := rs) (fun p hp => by rw [hrs]; exact List.mem_cons_of_mem _ hp))
 clear HNS
 have HNS := HNS2
 clear HNS2
 have HRS := Lh HRS0
 have L2 := Lh (show Lv w MB 12 W lvM12 rs from by rw [hrs]; exact L.out)
 clear L9 L HRS0 hrs hsub hA hrows hb12
 try clear rw'
 have L := L2
 clear L2
 have x1_0 : W.cell? ⟨b1, 0, none⟩ = some (.int .i64 0) := (L.out.row (HRS.out.1)).cell 0 (by simp)
 have x2_0 : W.cell? ⟨b2, 0, none⟩ = some (.int .i64 0) := (L.out.row (HRS.out.2.1)).cell 0 (by simp)
 have x2_1 : W.cell? ⟨b2, 1, none⟩ = some (.int .i64 0) := (L.out.row (HRS.out.2.1)).cell 1 (by simp)
 have x3_1 : W.cell? ⟨b3, 1, none⟩ = some (.int .i64 3) := (L.out.row (HRS.out.2.2.1)).cell 1 (by simp)
 have x4_4 : W.cell? ⟨b4, 4, none⟩ = some (.int .i64 2) := (L.out.row (HRS.out.2.2.2.1)).cell 4 (by simp)
 have x4_5 : W.cell? ⟨b4, 5, none⟩ = some (.int .i64 1) := (L.out.row (HRS.out.2.2.2.1)).cell 5 (by simp)
 have x4_6 : W.cell? ⟨b4, 6, none⟩ = some (.int .i64 2) := (L.out.row (HRS.out.2.2.2.1)).cell 6 (by simp)
 have x4_7 : W.cell? ⟨b4, 7, none⟩ = some (.bool false) := (L.out.row (HRS.out.2.2.2.1)).cell 7 (by simp)
 have x5_0 : W.cell? ⟨b5, 0, none⟩ = some (.int .i64 0) := (L.out.row (HRS.out.2.2.2.2.1)).cell 0 (by simp)
 have x7_0 : W.cell? ⟨b7, 0, none⟩ = some (.int .i64 0) := (L.out.row (HRS.out.2.2.2.2.2.1)).cell 0 (by simp)
 have x8_3 : W.cell? ⟨b8, 3, none⟩ = some (.slice na8 1 nc8) := (L.out.row (HRS.out.2.2.2.2.2.2.1)).cell 3 (by simp)
 have hT := same_texts na8 (some ⟨W.heap.size, 0, none⟩) nc8 1 [⟨#[103]⟩] (W.alloc (.cells #[.string ⟨#[103]⟩] 9)) (by simp) ((HNS.out.val L.out).below ((Below.refl W.heap.size W).alloc (Nat.le_refl _) _) (Nat.le_refl _)) (.inr ⟨W.heap.size, 0, rfl, by simp, fun i v hi => by
  rw [Nat.zero_add]
  have hr := rowAt_alloc W #[.string ⟨#[103]⟩] 9
  obtain ⟨hi', _⟩ := List.getElem?_eq_some_iff.1 hi
  rw [hr.cell i hi']
  exact hi⟩)
 have LA := Lh (L.out.alloc #[.string ⟨#[103]⟩] 9)
 have HT := Lh hT
 clear hT
 go_wp2_with fail
 refine HT.out.mono ?_
 rintro e W2 ⟨rfl, hb⟩
 have L2 := Lh ((LA.out.under hb).drop (rows' := rs) (fun p hp => List.mem_cons_of_mem _ hp))
 clear hb LA HT L
 have x11_2 : W2.cell? ⟨b11, 2, none⟩ = some (.string (tx [121, 122])) := (L2.out.row (HRS.out.2.2.2.2.2.2.2.1)).cell 2 (by simp)
 have x12_0 : W2.cell? ⟨b12, 0, none⟩ = some (.int .i64 216) := (L2.out.row (HRS.out.2.2.2.2.2.2.2.2)).cell 0 (by simp)
 obtain ⟨t1, t2⟩ := txt_yes (s := tx [121, 122]) (l := [121, 122]) rfl
 have hO := lv_opened L2.out (by omega)
 rw [lvO] at hO
 have HO := Lh hO
 clear hO
 go_wp2_with fail
 refine HO.out.mono ?_
 rintro e W3 ⟨a, cap, rfl, hG, hL, hb⟩
 have HG := Lh hG
 have L3 := Lh hL
 clear hG hL hb HO L2
 have hS := same_opened a (some ⟨W3.heap.size, 0, none⟩) cap 1 [⟨0, -1, 3, 3⟩] (W3.alloc (.cells #[.int .i64 0, .int .i64 (-1), .int .i64 3, .int .i64 3] 70)) (by simp) (HG.out.below ((Below.refl W3.heap.size W3).alloc (Nat.le_refl _) _)) (valG_new W3 _ _)
 have HS := Lh hS
 have HB := Lh ((L3.out.alloc #[.int .i64 0, .int .i64 (-1), .int .i64 3, .int .i64 3] 70).below)
 clear hS
 go_wp2_with fail
 refine HS.out.mono ?_
 rintro e W4 ⟨rfl, hb⟩
 have HB4 := Lh (HB.out.trans (hb.mono HB.out.size))
 clear hb
 go_wp2_with fail
 go_ret
 exact ⟨rfl, HB4.out⟩
end Go.Proofs.YtppdihpobokfnaaGreatDoor
