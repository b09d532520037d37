/- Walks: a record decoded: the document's answer. -/
import Derived.Test.YtfgnemddamebaaaRecWalks6
import Derived.Test.YtfgnemddamebaaaRecRef4
import Derived.Test.YtfgnemddamebaaaRecMask
import Derived.StillTailTactics
set_option linter.unusedVariables false
set_option linter.unusedSimpArgs false
set_option maxRecDepth 100000
namespace Go.Proofs.Ytfgnemddamebaaa
open Go.RowKit Go.Joins

def CutR8 (w : World) (x : Rc) (wx : World) : Prop := ∃ (ah : Option Addr) (ch : Nat) (am : Option Addr) (cm : Nat), RowAt wx w.heap.size [.int .i64 0, .int .u64 0, .int .i64 0, .slice none 0 0, .slice none 0 0, .int .u32 0] ∧ RowAt wx (w.heap.size + 1) [.int .i64 x.k, .int .u64 x.q, .int .i64 x.at_, .slice ah x.hs.length ch, .slice am x.ms.length cm, .int .u32 x.sum] ∧ NewS wx (w.heap.size + 1 + 1) ah (x.hs.map (Value.int .i64)) ∧ NewS wx (w.heap.size + 1 + 1) am (x.ms.map Value.bool) ∧ Below w.heap.size w wx
def KindR1 (s : ByteArray) (k q N : Int) (x : Rc) : Prop := ∃ (v : Int) (b : Bool), k = 1 ∧ x = ⟨1, q, v, [], [], 0⟩ ∧ 0 ≤ v ∧ v ≤ 65535 ∧ Hid (∀ W, Calls Try.prog 37 #[.string s, .int .i64 13, .int .i64 2] W fun e w' => e = .returned (.tuple #[.int .u64 v, .bool b]) ∧ W = w')
def KindR4 (s : ByteArray) (k q N : Int) (x : Rc) : Prop := ∃ (v : Int) (b : Bool), k = 4 ∧ x = ⟨4, q, 0, [], [], v⟩ ∧ 0 ≤ v ∧ v ≤ 4294967295 ∧ Hid (∀ W, Calls Try.prog 37 #[.string s, .int .i64 13, .int .i64 4] W fun e w' => e = .returned (.tuple #[.int .u64 v, .bool b]) ∧ W = w')
def KindR0 (s : ByteArray) (k q N : Int) (x : Rc) : Prop := k ≠ 1 ∧ k ≠ 2 ∧ k ≠ 3 ∧ k ≠ 4 ∧ x = ⟨k, q, 0, [], [], 0⟩
def KindR23 (kk : Int) (s : ByteArray) (k q N : Int) (x : Rc) (M : Nat) (h : Nat → Int) : Prop := (M : Int) ≤ N ∧ M ≤ 40 ∧ (N = M ∨ M = 40) ∧ k = kk ∧ (Hid (∀ i, i < M → 0 ≤ h i ∧ h i ≤ 65535 ∧ ∃ b : Bool, ∀ W, Calls Try.prog 37 #[.string s, .int .i64 (14 + 2 * (i : Int)), .int .i64 2] W fun e w' => e = .returned (.tuple #[.int .u64 (h i), .bool b]) ∧ W = w'))
def KindR3 (s : ByteArray) (k q N : Int) (x : Rc) : Prop := ∃ (M : Nat) (h : Nat → Int), KindR23 3 s k q N x M h ∧ x = ⟨3, q, 0, hls h M, [], 0⟩

set_option maxHeartbeats 8000000 in
theorem rdec8_k1 (s : ByteArray) (w : World) (hsz : s.size = 128) (k q N : Int) (hk0 : 0 ≤ k) (hk1 : k ≤ 255) (hN0 : 0 ≤ N) (hN1 : N ≤ 255) (b1 : Bool) (x : Rc) (Post : Ending → World → Prop) (Q : ByteArray) (e0 : Int)
    (ht : ((s.extract 0 4).toList == [71, 76, 74, 119]) = true)
    (i4 : ∀ w, (Instr.index 9 (.string s) (.int .i64 4)).run Try.prog w = .ok (.int .u8 k) w)
    (i13 : ∀ w, (Instr.index 9 (.string s) (.int .i64 13)).run Try.prog w = .ok (.int .u8 N) w)
    (HQ : Hid (∀ W, Calls Try.prog 37 #[.string s, .int .i64 5, .int .i64 8] W fun e w' => e = .returned (.tuple #[.int .u64 q, .bool b1]) ∧ W = w'))
    (hkk : KindR1 s k q N x)
    (HE : Hid (∀ ah ch am cm W, NewS W (w.heap.size + 1 + 1) ah (x.hs.map (Value.int .i64)) → NewS W (w.heap.size + 1 + 1) am (x.ms.map Value.bool) → Calls Try.prog 12 #[rcV x ah ch am cm] W fun e w' => e = .returned (.tuple #[.string Q, .int .i64 e0]) ∧ Below W.heap.size W w'))
    (hres : Hid (e0 = 0 ∧ (Q.toList == s.toList) = true ∧ Post = DecP8 x w ∨ e0 = 0 ∧ (Q.toList == s.toList) = false ∧ Post = DecN8 w ∨ e0 = 2 ∧ Post = DecN8 w)) :
    Calls Try.prog 16 #[.string s] w Post := by
  have z0 := rowAt_alloc w #[.int .i64 0, .int .u64 0, .int .i64 0, .slice none 0 0, .slice none 0 0, .int .u32 0] 27
  have x5 := rowAt_alloc (w.alloc (.cells #[.int .i64 0, .int .u64 0, .int .i64 0, .slice none 0 0, .slice none 0 0, .int .u32 0] 27)) #[.int .i64 k, .int .u64 q, .int .i64 0, .slice none 0 0, .slice none 0 0, .int .u32 0] 27
  have u5 := z0.alloc (.cells #[.int .i64 k, .int .u64 q, .int .i64 0, .slice none 0 0, .slice none 0 0, .int .u32 0] 27)
  have B5 : Below w.heap.size w ((w.alloc (.cells #[.int .i64 0, .int .u64 0, .int .i64 0, .slice none 0 0, .slice none 0 0, .int .u32 0] 27)).alloc (.cells #[.int .i64 k, .int .u64 q, .int .i64 0, .slice none 0 0, .slice none 0 0, .int .u32 0] 27)) := by go_grown
  rw [World.size_alloc] at x5
  clear z0
  go_enter Try.func16, Try.ntmps16
  go_wp2_with fail
  refine (HQ.out _).mono ?_
  rintro e w2 ⟨rfl, rfl⟩
  go_upto_block 0 with fail
  have L3 : w.heap.size + 1 < ((w.alloc (.cells #[.int .i64 0, .int .u64 0, .int .i64 0, .slice none 0 0, .slice none 0 0, .int .u32 0] 27)).alloc (.cells #[.int .i64 k, .int .u64 q, .int .i64 0, .slice none 0 0, .slice none 0 0, .int .u32 0] 27)).heap.size := x5.lt
  generalize (w.alloc (.cells #[.int .i64 0, .int .u64 0, .int .i64 0, .slice none 0 0, .slice none 0 0, .int .u32 0] 27)).alloc (.cells #[.int .i64 k, .int .u64 q, .int .i64 0, .slice none 0 0, .slice none 0 0, .int .u32 0] 27) = w5 at *
  clear i4 i13 ht
  go_cut [] (fun wx => CutR8 w x wx)
  case first =>
    clear HE hres HQ
    obtain ⟨c0, c1, c2, c3, c4, c5⟩ := sixr_cells x5
    obtain ⟨v, b, rfl, rfl, hv0, hv1, HG2⟩ := hkk
    have F0 := x5.frozen 2 (by simp)
    go_wp2_with fail
    refine (HG2.out _).mono ?_
    rintro e w6 ⟨rfl, rfl⟩
    go_wp2_with fail
    go_meet
    case rel => exact ⟨none, 0, none, 0, u5.other _ _ (by simp; try omega), x5.set 2 _, .inl rfl, .inl rfl, B5.setCell (by simp; try omega) _⟩
  case rest =>
    clear hkk x5 u5 B5 L3 HQ
    obtain ⟨ah, ch, am, cm, u7, x7, hN, hM, B7⟩ := hcut
    have HNW := Lib.hid hN
    have HMW := Lib.hid hM
    clear hN hM
    obtain ⟨c0, c1, c2, c3, c4, c5⟩ := sixr_cells x7
    have L1 := x7.lt
    go_wp2_with fail
    refine (HE.out ah ch am cm _ HNW.out HMW.out).mono ?_
    rintro e w8 ⟨rfl, hb8⟩
    have x8 := x7.below hb8 x7.lt
    have u8 := u7.below hb8 u7.lt
    have B8 := below_chain B7 hb8 B7.size
    have HN8 := Lib.hid (HNW.out.below hb8 (Nat.le_refl _))
    have HM8 := Lib.hid (HMW.out.below hb8 (Nat.le_refl _))
    have L8 := x8.lt
    clear c0 c1 c2 c3 c4 c5 hb8 B7 HNW HMW u7 x7 L1
    have y0 := u8.frozen 0 (by simp)
    have y1 := u8.frozen 1 (by simp)
    have y2 := u8.frozen 2 (by simp)
    have y3 := u8.frozen 3 (by simp)
    have y4 := u8.frozen 4 (by simp)
    have y5 := u8.frozen 5 (by simp)
    have hm8 := u8.lt
    obtain ⟨c0, c1, c2, c3, c4, c5⟩ := sixr_cells x8
    obtain ⟨z0, z1, z2, z3, z4, z5⟩ := sixr_cells u8
    rcases hres.out with ⟨rfl, h1, hP⟩ | ⟨rfl, h1, hP⟩ | ⟨rfl, hP⟩
    · have HPo := Lib.hid hP
      clear hP
      go_wp2_with fail
      refine bodyPost_ret (v := .tuple #[rcV x ah ch am cm, .int .i64 0]) ?_ rfl ?_
      · have hfin := ((((((u8.set 0 (.int .i64 x.k)).set 1 (.int .u64 x.q)).set 2 (.int .i64 x.at_)).set 3 (.slice ah x.hs.length ch)).set 4 (.slice am x.ms.length cm)).set 5 (.int .u32 x.sum))
        obtain ⟨t0, t1, t2, t3, t4, t5⟩ := sixr_cells (show RowAt _ _ [.int .i64 x.k, .int .u64 x.q, .int .i64 x.at_, .slice ah x.hs.length ch, .slice am x.ms.length cm, .int .u32 x.sum] from hfin)
        simp [results, Try.results16, go_sem, t0, t1, t2, t3, t4, t5]; done
      · rw [HPo.out]
        refine ⟨ah, ch, am, cm, rfl, ?_, ?_, ?_⟩
        · refine NewS.less (base := w.heap.size + 1 + 1) ?_ (by omega)
          exact (((((HN8.out.other _ _ (by simp; try omega)).other _ _ (by simp; try omega)).other _ _ (by simp; try omega)).other _ _ (by simp; try omega)).other _ _ (by simp; try omega)).other _ _ (by simp; try omega)
        · refine NewS.less (base := w.heap.size + 1 + 1) ?_ (by omega)
          exact (((((HM8.out.other _ _ (by simp; try omega)).other _ _ (by simp; try omega)).other _ _ (by simp; try omega)).other _ _ (by simp; try omega)).other _ _ (by simp; try omega)).other _ _ (by simp; try omega)
        · go_grown
    · have HPo := Lib.hid hP
      clear hP
      go_wp2_with fail
      refine bodyPost_ret (v := .tuple #[rv 0 0 0 none 0 0 none 0 0 0, .int .i64 80]) ?_ rfl ?_
      · have hfin := ((((((u8.set 0 (.int .i64 0)).set 1 (.int .u64 0)).set 2 (.int .i64 0)).set 3 (.slice none 0 0)).set 4 (.slice none 0 0)).set 5 (.int .u32 0))
        obtain ⟨t0, t1, t2, t3, t4, t5⟩ := sixr_cells (show RowAt _ _ [.int .i64 0, .int .u64 0, .int .i64 0, .slice none 0 0, .slice none 0 0, .int .u32 0] from hfin)
        simp [results, Try.results16, go_sem, t0, t1, t2, t3, t4, t5]; done
      · rw [HPo.out]
        refine ⟨rfl, ?_⟩
        go_grown
    · have HPo := Lib.hid hP
      clear hP
      go_wp2_with fail
      refine bodyPost_ret (v := .tuple #[rv 0 0 0 none 0 0 none 0 0 0, .int .i64 80]) ?_ rfl ?_
      · have hfin := ((((((u8.set 0 (.int .i64 0)).set 1 (.int .u64 0)).set 2 (.int .i64 0)).set 3 (.slice none 0 0)).set 4 (.slice none 0 0)).set 5 (.int .u32 0))
        obtain ⟨t0, t1, t2, t3, t4, t5⟩ := sixr_cells (show RowAt _ _ [.int .i64 0, .int .u64 0, .int .i64 0, .slice none 0 0, .slice none 0 0, .int .u32 0] from hfin)
        simp [results, Try.results16, go_sem, t0, t1, t2, t3, t4, t5]; done
      · rw [HPo.out]
        refine ⟨rfl, ?_⟩
        go_grown

set_option maxHeartbeats 8000000 in
theorem rdec8_k4 (s : ByteArray) (w : World) (hsz : s.size = 128) (k q N : Int) (hk0 : 0 ≤ k) (hk1 : k ≤ 255) (hN0 : 0 ≤ N) (hN1 : N ≤ 255) (b1 : Bool) (x : Rc) (Post : Ending → World → Prop) (Q : ByteArray) (e0 : Int)
    (ht : ((s.extract 0 4).toList == [71, 76, 74, 119]) = true)
    (i4 : ∀ w, (Instr.index 9 (.string s) (.int .i64 4)).run Try.prog w = .ok (.int .u8 k) w)
    (i13 : ∀ w, (Instr.index 9 (.string s) (.int .i64 13)).run Try.prog w = .ok (.int .u8 N) w)
    (HQ : Hid (∀ W, Calls Try.prog 37 #[.string s, .int .i64 5, .int .i64 8] W fun e w' => e = .returned (.tuple #[.int .u64 q, .bool b1]) ∧ W = w'))
    (hkk : KindR4 s k q N x)
    (HE : Hid (∀ ah ch am cm W, NewS W (w.heap.size + 1 + 1) ah (x.hs.map (Value.int .i64)) → NewS W (w.heap.size + 1 + 1) am (x.ms.map Value.bool) → Calls Try.prog 12 #[rcV x ah ch am cm] W fun e w' => e = .returned (.tuple #[.string Q, .int .i64 e0]) ∧ Below W.heap.size W w'))
    (hres : Hid (e0 = 0 ∧ (Q.toList == s.toList) = true ∧ Post = DecP8 x w ∨ e0 = 0 ∧ (Q.toList == s.toList) = false ∧ Post = DecN8 w ∨ e0 = 2 ∧ Post = DecN8 w)) :
    Calls Try.prog 16 #[.string s] w Post := by
  have z0 := rowAt_alloc w #[.int .i64 0, .int .u64 0, .int .i64 0, .slice none 0 0, .slice none 0 0, .int .u32 0] 27
  have x5 := rowAt_alloc (w.alloc (.cells #[.int .i64 0, .int .u64 0, .int .i64 0, .slice none 0 0, .slice none 0 0, .int .u32 0] 27)) #[.int .i64 k, .int .u64 q, .int .i64 0, .slice none 0 0, .slice none 0 0, .int .u32 0] 27
  have u5 := z0.alloc (.cells #[.int .i64 k, .int .u64 q, .int .i64 0, .slice none 0 0, .slice none 0 0, .int .u32 0] 27)
  have B5 : Below w.heap.size w ((w.alloc (.cells #[.int .i64 0, .int .u64 0, .int .i64 0, .slice none 0 0, .slice none 0 0, .int .u32 0] 27)).alloc (.cells #[.int .i64 k, .int .u64 q, .int .i64 0, .slice none 0 0, .slice none 0 0, .int .u32 0] 27)) := by go_grown
  rw [World.size_alloc] at x5
  clear z0
  go_enter Try.func16, Try.ntmps16
  go_wp2_with fail
  refine (HQ.out _).mono ?_
  rintro e w2 ⟨rfl, rfl⟩
  go_upto_block 0 with fail
  have L3 : w.heap.size + 1 < ((w.alloc (.cells #[.int .i64 0, .int .u64 0, .int .i64 0, .slice none 0 0, .slice none 0 0, .int .u32 0] 27)).alloc (.cells #[.int .i64 k, .int .u64 q, .int .i64 0, .slice none 0 0, .slice none 0 0, .int .u32 0] 27)).heap.size := x5.lt
  generalize (w.alloc (.cells #[.int .i64 0, .int .u64 0, .int .i64 0, .slice none 0 0, .slice none 0 0, .int .u32 0] 27)).alloc (.cells #[.int .i64 k, .int .u64 q, .int .i64 0, .slice none 0 0, .slice none 0 0, .int .u32 0] 27) = w5 at *
  clear i4 i13 ht
  go_cut [] (fun wx => CutR8 w x wx)
  case first =>
    clear HE hres HQ
    obtain ⟨c0, c1, c2, c3, c4, c5⟩ := sixr_cells x5
    obtain ⟨v, b, rfl, rfl, hv0, hv1, HG2⟩ := hkk
    have F0 := x5.frozen 5 (by simp)
    go_wp2_with fail
    refine (HG2.out _).mono ?_
    rintro e w6 ⟨rfl, rfl⟩
    go_wp2_with fail
    go_meet
    case rel => exact ⟨none, 0, none, 0, u5.other _ _ (by simp; try omega), x5.set 5 _, .inl rfl, .inl rfl, B5.setCell (by simp; try omega) _⟩
  case rest =>
    clear hkk x5 u5 B5 L3 HQ
    obtain ⟨ah, ch, am, cm, u7, x7, hN, hM, B7⟩ := hcut
    have HNW := Lib.hid hN
    have HMW := Lib.hid hM
    clear hN hM
    obtain ⟨c0, c1, c2, c3, c4, c5⟩ := sixr_cells x7
    have L1 := x7.lt
    go_wp2_with fail
    refine (HE.out ah ch am cm _ HNW.out HMW.out).mono ?_
    rintro e w8 ⟨rfl, hb8⟩
    have x8 := x7.below hb8 x7.lt
    have u8 := u7.below hb8 u7.lt
    have B8 := below_chain B7 hb8 B7.size
    have HN8 := Lib.hid (HNW.out.below hb8 (Nat.le_refl _))
    have HM8 := Lib.hid (HMW.out.below hb8 (Nat.le_refl _))
    have L8 := x8.lt
    clear c0 c1 c2 c3 c4 c5 hb8 B7 HNW HMW u7 x7 L1
    have y0 := u8.frozen 0 (by simp)
    have y1 := u8.frozen 1 (by simp)
    have y2 := u8.frozen 2 (by simp)
    have y3 := u8.frozen 3 (by simp)
    have y4 := u8.frozen 4 (by simp)
    have y5 := u8.frozen 5 (by simp)
    have hm8 := u8.lt
    obtain ⟨c0, c1, c2, c3, c4, c5⟩ := sixr_cells x8
    obtain ⟨z0, z1, z2, z3, z4, z5⟩ := sixr_cells u8
    rcases hres.out with ⟨rfl, h1, hP⟩ | ⟨rfl, h1, hP⟩ | ⟨rfl, hP⟩
    · have HPo := Lib.hid hP
      clear hP
      go_wp2_with fail
      refine bodyPost_ret (v := .tuple #[rcV x ah ch am cm, .int .i64 0]) ?_ rfl ?_
      · have hfin := ((((((u8.set 0 (.int .i64 x.k)).set 1 (.int .u64 x.q)).set 2 (.int .i64 x.at_)).set 3 (.slice ah x.hs.length ch)).set 4 (.slice am x.ms.length cm)).set 5 (.int .u32 x.sum))
        obtain ⟨t0, t1, t2, t3, t4, t5⟩ := sixr_cells (show RowAt _ _ [.int .i64 x.k, .int .u64 x.q, .int .i64 x.at_, .slice ah x.hs.length ch, .slice am x.ms.length cm, .int .u32 x.sum] from hfin)
        simp [results, Try.results16, go_sem, t0, t1, t2, t3, t4, t5]; done
      · rw [HPo.out]
        refine ⟨ah, ch, am, cm, rfl, ?_, ?_, ?_⟩
        · refine NewS.less (base := w.heap.size + 1 + 1) ?_ (by omega)
          exact (((((HN8.out.other _ _ (by simp; try omega)).other _ _ (by simp; try omega)).other _ _ (by simp; try omega)).other _ _ (by simp; try omega)).other _ _ (by simp; try omega)).other _ _ (by simp; try omega)
        · refine NewS.less (base := w.heap.size + 1 + 1) ?_ (by omega)
          exact (((((HM8.out.other _ _ (by simp; try omega)).other _ _ (by simp; try omega)).other _ _ (by simp; try omega)).other _ _ (by simp; try omega)).other _ _ (by simp; try omega)).other _ _ (by simp; try omega)
        · go_grown
    · have HPo := Lib.hid hP
      clear hP
      go_wp2_with fail
      refine bodyPost_ret (v := .tuple #[rv 0 0 0 none 0 0 none 0 0 0, .int .i64 80]) ?_ rfl ?_
      · have hfin := ((((((u8.set 0 (.int .i64 0)).set 1 (.int .u64 0)).set 2 (.int .i64 0)).set 3 (.slice none 0 0)).set 4 (.slice none 0 0)).set 5 (.int .u32 0))
        obtain ⟨t0, t1, t2, t3, t4, t5⟩ := sixr_cells (show RowAt _ _ [.int .i64 0, .int .u64 0, .int .i64 0, .slice none 0 0, .slice none 0 0, .int .u32 0] from hfin)
        simp [results, Try.results16, go_sem, t0, t1, t2, t3, t4, t5]; done
      · rw [HPo.out]
        refine ⟨rfl, ?_⟩
        go_grown
    · have HPo := Lib.hid hP
      clear hP
      go_wp2_with fail
      refine bodyPost_ret (v := .tuple #[rv 0 0 0 none 0 0 none 0 0 0, .int .i64 80]) ?_ rfl ?_
      · have hfin := ((((((u8.set 0 (.int .i64 0)).set 1 (.int .u64 0)).set 2 (.int .i64 0)).set 3 (.slice none 0 0)).set 4 (.slice none 0 0)).set 5 (.int .u32 0))
        obtain ⟨t0, t1, t2, t3, t4, t5⟩ := sixr_cells (show RowAt _ _ [.int .i64 0, .int .u64 0, .int .i64 0, .slice none 0 0, .slice none 0 0, .int .u32 0] from hfin)
        simp [results, Try.results16, go_sem, t0, t1, t2, t3, t4, t5]; done
      · rw [HPo.out]
        refine ⟨rfl, ?_⟩
        go_grown

set_option maxHeartbeats 8000000 in
theorem rdec8_k0 (s : ByteArray) (w : World) (hsz : s.size = 128) (k q N : Int) (hk0 : 0 ≤ k) (hk1 : k ≤ 255) (hN0 : 0 ≤ N) (hN1 : N ≤ 255) (b1 : Bool) (x : Rc) (Post : Ending → World → Prop) (Q : ByteArray) (e0 : Int)
    (ht : ((s.extract 0 4).toList == [71, 76, 74, 119]) = true)
    (i4 : ∀ w, (Instr.index 9 (.string s) (.int .i64 4)).run Try.prog w = .ok (.int .u8 k) w)
    (i13 : ∀ w, (Instr.index 9 (.string s) (.int .i64 13)).run Try.prog w = .ok (.int .u8 N) w)
    (HQ : Hid (∀ W, Calls Try.prog 37 #[.string s, .int .i64 5, .int .i64 8] W fun e w' => e = .returned (.tuple #[.int .u64 q, .bool b1]) ∧ W = w'))
    (hkk : KindR0 s k q N x)
    (HE : Hid (∀ ah ch am cm W, NewS W (w.heap.size + 1 + 1) ah (x.hs.map (Value.int .i64)) → NewS W (w.heap.size + 1 + 1) am (x.ms.map Value.bool) → Calls Try.prog 12 #[rcV x ah ch am cm] W fun e w' => e = .returned (.tuple #[.string Q, .int .i64 e0]) ∧ Below W.heap.size W w'))
    (hres : Hid (e0 = 0 ∧ (Q.toList == s.toList) = true ∧ Post = DecP8 x w ∨ e0 = 0 ∧ (Q.toList == s.toList) = false ∧ Post = DecN8 w ∨ e0 = 2 ∧ Post = DecN8 w)) :
    Calls Try.prog 16 #[.string s] w Post := by
  have z0 := rowAt_alloc w #[.int .i64 0, .int .u64 0, .int .i64 0, .slice none 0 0, .slice none 0 0, .int .u32 0] 27
  have x5 := rowAt_alloc (w.alloc (.cells #[.int .i64 0, .int .u64 0, .int .i64 0, .slice none 0 0, .slice none 0 0, .int .u32 0] 27)) #[.int .i64 k, .int .u64 q, .int .i64 0, .slice none 0 0, .slice none 0 0, .int .u32 0] 27
  have u5 := z0.alloc (.cells #[.int .i64 k, .int .u64 q, .int .i64 0, .slice none 0 0, .slice none 0 0, .int .u32 0] 27)
  have B5 : Below w.heap.size w ((w.alloc (.cells #[.int .i64 0, .int .u64 0, .int .i64 0, .slice none 0 0, .slice none 0 0, .int .u32 0] 27)).alloc (.cells #[.int .i64 k, .int .u64 q, .int .i64 0, .slice none 0 0, .slice none 0 0, .int .u32 0] 27)) := by go_grown
  rw [World.size_alloc] at x5
  clear z0
  go_enter Try.func16, Try.ntmps16
  go_wp2_with fail
  refine (HQ.out _).mono ?_
  rintro e w2 ⟨rfl, rfl⟩
  go_upto_block 0 with fail
  have L3 : w.heap.size + 1 < ((w.alloc (.cells #[.int .i64 0, .int .u64 0, .int .i64 0, .slice none 0 0, .slice none 0 0, .int .u32 0] 27)).alloc (.cells #[.int .i64 k, .int .u64 q, .int .i64 0, .slice none 0 0, .slice none 0 0, .int .u32 0] 27)).heap.size := x5.lt
  generalize (w.alloc (.cells #[.int .i64 0, .int .u64 0, .int .i64 0, .slice none 0 0, .slice none 0 0, .int .u32 0] 27)).alloc (.cells #[.int .i64 k, .int .u64 q, .int .i64 0, .slice none 0 0, .slice none 0 0, .int .u32 0] 27) = w5 at *
  clear i4 i13 ht
  go_cut [] (fun wx => CutR8 w x wx)
  case first =>
    clear HE hres HQ
    obtain ⟨c0, c1, c2, c3, c4, c5⟩ := sixr_cells x5
    obtain ⟨n1, n2, n3, n4, rfl⟩ := hkk
    have m1 : (k == 1) = false := by simpa using n1
    have m2 : (k == 2) = false := by simpa using n2
    have m3 : (k == 3) = false := by simpa using n3
    have m4 : (k == 4) = false := by simpa using n4
    clear n1 n2 n3 n4
    go_wp2_with fail
    go_meet
    case rel => exact ⟨none, 0, none, 0, u5, x5, .inl rfl, .inl rfl, B5⟩
  case rest =>
    clear hkk x5 u5 B5 L3 HQ
    obtain ⟨ah, ch, am, cm, u7, x7, hN, hM, B7⟩ := hcut
    have HNW := Lib.hid hN
    have HMW := Lib.hid hM
    clear hN hM
    obtain ⟨c0, c1, c2, c3, c4, c5⟩ := sixr_cells x7
    have L1 := x7.lt
    go_wp2_with fail
    refine (HE.out ah ch am cm _ HNW.out HMW.out).mono ?_
    rintro e w8 ⟨rfl, hb8⟩
    have x8 := x7.below hb8 x7.lt
    have u8 := u7.below hb8 u7.lt
    have B8 := below_chain B7 hb8 B7.size
    have HN8 := Lib.hid (HNW.out.below hb8 (Nat.le_refl _))
    have HM8 := Lib.hid (HMW.out.below hb8 (Nat.le_refl _))
    have L8 := x8.lt
    clear c0 c1 c2 c3 c4 c5 hb8 B7 HNW HMW u7 x7 L1
    have y0 := u8.frozen 0 (by simp)
    have y1 := u8.frozen 1 (by simp)
    have y2 := u8.frozen 2 (by simp)
    have y3 := u8.frozen 3 (by simp)
    have y4 := u8.frozen 4 (by simp)
    have y5 := u8.frozen 5 (by simp)
    have hm8 := u8.lt
    obtain ⟨c0, c1, c2, c3, c4, c5⟩ := sixr_cells x8
    obtain ⟨z0, z1, z2, z3, z4, z5⟩ := sixr_cells u8
    rcases hres.out with ⟨rfl, h1, hP⟩ | ⟨rfl, h1, hP⟩ | ⟨rfl, hP⟩
    · have HPo := Lib.hid hP
      clear hP
      go_wp2_with fail
      refine bodyPost_ret (v := .tuple #[rcV x ah ch am cm, .int .i64 0]) ?_ rfl ?_
      · have hfin := ((((((u8.set 0 (.int .i64 x.k)).set 1 (.int .u64 x.q)).set 2 (.int .i64 x.at_)).set 3 (.slice ah x.hs.length ch)).set 4 (.slice am x.ms.length cm)).set 5 (.int .u32 x.sum))
        obtain ⟨t0, t1, t2, t3, t4, t5⟩ := sixr_cells (show RowAt _ _ [.int .i64 x.k, .int .u64 x.q, .int .i64 x.at_, .slice ah x.hs.length ch, .slice am x.ms.length cm, .int .u32 x.sum] from hfin)
        simp [results, Try.results16, go_sem, t0, t1, t2, t3, t4, t5]; done
      · rw [HPo.out]
        refine ⟨ah, ch, am, cm, rfl, ?_, ?_, ?_⟩
        · refine NewS.less (base := w.heap.size + 1 + 1) ?_ (by omega)
          exact (((((HN8.out.other _ _ (by simp; try omega)).other _ _ (by simp; try omega)).other _ _ (by simp; try omega)).other _ _ (by simp; try omega)).other _ _ (by simp; try omega)).other _ _ (by simp; try omega)
        · refine NewS.less (base := w.heap.size + 1 + 1) ?_ (by omega)
          exact (((((HM8.out.other _ _ (by simp; try omega)).other _ _ (by simp; try omega)).other _ _ (by simp; try omega)).other _ _ (by simp; try omega)).other _ _ (by simp; try omega)).other _ _ (by simp; try omega)
        · go_grown
    · have HPo := Lib.hid hP
      clear hP
      go_wp2_with fail
      refine bodyPost_ret (v := .tuple #[rv 0 0 0 none 0 0 none 0 0 0, .int .i64 80]) ?_ rfl ?_
      · have hfin := ((((((u8.set 0 (.int .i64 0)).set 1 (.int .u64 0)).set 2 (.int .i64 0)).set 3 (.slice none 0 0)).set 4 (.slice none 0 0)).set 5 (.int .u32 0))
        obtain ⟨t0, t1, t2, t3, t4, t5⟩ := sixr_cells (show RowAt _ _ [.int .i64 0, .int .u64 0, .int .i64 0, .slice none 0 0, .slice none 0 0, .int .u32 0] from hfin)
        simp [results, Try.results16, go_sem, t0, t1, t2, t3, t4, t5]; done
      · rw [HPo.out]
        refine ⟨rfl, ?_⟩
        go_grown
    · have HPo := Lib.hid hP
      clear hP
      go_wp2_with fail
      refine bodyPost_ret (v := .tuple #[rv 0 0 0 none 0 0 none 0 0 0, .int .i64 80]) ?_ rfl ?_
      · have hfin := ((((((u8.set 0 (.int .i64 0)).set 1 (.int .u64 0)).set 2 (.int .i64 0)).set 3 (.slice none 0 0)).set 4 (.slice none 0 0)).set 5 (.int .u32 0))
        obtain ⟨t0, t1, t2, t3, t4, t5⟩ := sixr_cells (show RowAt _ _ [.int .i64 0, .int .u64 0, .int .i64 0, .slice none 0 0, .slice none 0 0, .int .u32 0] from hfin)
        simp [results, Try.results16, go_sem, t0, t1, t2, t3, t4, t5]; done
      · rw [HPo.out]
        refine ⟨rfl, ?_⟩
        go_grown

end Go.Proofs.Ytfgnemddamebaaa
