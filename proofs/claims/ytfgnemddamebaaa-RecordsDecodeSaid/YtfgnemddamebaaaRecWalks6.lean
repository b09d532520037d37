/- Walks: a record decoded. -/
import Derived.Test.YtfgnemddamebaaaPlainRec3
import Derived.Test.YtfgnemddamebaaaRecWalks5
import Derived.Test.YtfgnemddamebaaaShelf
import Derived.Deep.RegionLaw
import Derived.Deep.CutBlock
import Derived.Deep.DeepCutAuto
import Derived.StillTailTactics
set_option linter.unusedVariables false
set_option linter.unusedSimpArgs false
set_option maxRecDepth 100000
namespace Go.Proofs.Ytfgnemddamebaaa
open Go.RowKit Go.Joins

def DecP8 (x : Rc) (w : World) (e : Ending) (w' : World) : Prop := ∃ ah ch am cm, e = .returned (.tuple #[rcV x ah ch am cm, .int .i64 0]) ∧ NewS w' w.heap.size ah (x.hs.map (Value.int .i64)) ∧ NewS w' w.heap.size am (x.ms.map Value.bool) ∧ Below w.heap.size w w'
def DecN8 (w : World) (e : Ending) (w' : World) : Prop := e = .returned (.tuple #[rv 0 0 0 none 0 0 none 0 0 0, .int .i64 80]) ∧ Below w.heap.size w w'
/-- what is known behind the switch -/
def Cut8 (s : ByteArray) (w : World) (x : Rc) (bad : Bool) (wx : World) : Prop := ∃ (ah : Option Addr) (ch : Nat) (am : Option Addr) (cm : Nat) (t : Int), RowAt wx w.heap.size [.int .i64 0, .int .u64 0, .int .i64 0, .slice none 0 0, .slice none 0 0, .int .u32 0] ∧ RowAt wx (w.heap.size + 1) [.int .i64 x.k, .int .u64 x.q, .int .i64 x.at_, .slice ah x.hs.length ch, .slice am x.ms.length cm, .int .u32 x.sum] ∧ RowAt wx (w.heap.size + 1 + 1) [.string s, .int .i64 t, .bool bad] ∧ NewS wx (w.heap.size + 1 + 1 + 1) ah (x.hs.map (Value.int .i64)) ∧ NewS wx (w.heap.size + 1 + 1 + 1) am (x.ms.map Value.bool) ∧ Below w.heap.size w wx

theorem info_int8 : (Try.prog.info? 3).map (fun i => (i.zero, i.size, i.bytes)) = some (some (.int .i64 0), 1, 8) := by kernel_rfl
theorem info_bool8 : (Try.prog.info? 4).map (fun i => (i.zero, i.size, i.bytes)) = some (some (.bool false), 1, 1) := by kernel_rfl
theorem grown_below8 {w0 w w' : World} {row : Option Nat} {base : Nat} (h : Below base w0 w) (hg : w.grownBy w' row) (hr : ∀ k, row = some k → base ≤ k) (hB : base ≤ w.heap.size) : Below base w0 w' :=
  h.trans ⟨hg.os, hg.tape, hg.output, hg.size, fun k hk => hg.block k (by omega) (fun e => by have := hr k e.symm; omega)⟩
theorem row_news8 {w : World} {g : Nat} {xs : List Value} (h : RowAt w g xs) : ∀ j u, xs[j]? = some u → w.cell? ((⟨g, 0, none⟩ : Addr).add j) = some u := by
  intro j u hj
  obtain ⟨hl, e⟩ := List.getElem?_eq_some_iff.1 hj
  rw [addr_add, Nat.zero_add, h.cell j hl, hj]
/-- so many homes, as values -/
def hvs (h : Nat → Int) (i : Nat) : List Value := (List.range i).map fun j => .int .i64 (h j)
theorem hvs_snoc (h : Nat → Int) (i : Nat) : hvs h i ++ [.int .i64 (h i)] = hvs h (i + 1) := by simp [hvs, List.range_succ]
def mvs (h : Nat → Bool) (i : Nat) : List Value := (List.range i).map fun j => .bool (h j)
theorem mvs_snoc (h : Nat → Bool) (i : Nat) : mvs h i ++ [.bool (h i)] = mvs h (i + 1) := by simp [mvs, List.range_succ]
def hls (h : Nat → Int) (i : Nat) : List Int := (List.range i).map h
def mls (h : Nat → Bool) (i : Nat) : List Bool := (List.range i).map h
theorem hls_len (h : Nat → Int) (i : Nat) : (hls h i).length = i := by simp [hls]
theorem mls_len (h : Nat → Bool) (i : Nat) : (mls h i).length = i := by simp [mls]
theorem hls_vals (h : Nat → Int) (i : Nat) : (hls h i).map (Value.int .i64) = hvs h i := by simp [hls, hvs]
theorem mls_vals (h : Nat → Bool) (i : Nat) : (mls h i).map Value.bool = mvs h i := by simp [mls, mvs]
theorem NewS.grown8 {w w' : World} {base : Nat} {a : Option Addr} {vs : List Value} {row : Option Nat} (h : NewS w base a vs) (hg : w.grownBy w' row) (hr : ∀ k g, row = some k → a = some ⟨g, 0, none⟩ → base ≤ g → g < w.heap.size → k ≠ g) : NewS w' base a vs := by
  rcases h with rfl | ⟨g, rfl, h1, hr2⟩
  · exact .inl rfl
  · exact .inr ⟨g, rfl, h1, hr2.grown hg (fun e => hr _ _ e rfl h1 hr2.lt rfl)⟩

def Kind1 (s : ByteArray) (k q : Int) (x : Rc) (bad : Bool) : Prop := ∃ v : Int, k = 1 ∧ x = ⟨1, q, v, [], [], 0⟩ ∧ bad = false ∧ (Hid (∀ K W, RowAt W K [.string s, .int .i64 13, .bool false] → Calls Try.prog 36 #[.pointer (some ⟨K, 0, none⟩), .int .i64 2] W fun e w' => e = .returned (.int .i64 v) ∧ RowAt w' K [.string s, .int .i64 15, .bool false] ∧ W.grownBy w' (some K)))
def Kind4 (s : ByteArray) (k q : Int) (x : Rc) (bad : Bool) : Prop := ∃ v : Int, k = 4 ∧ x = ⟨4, q, 0, [], [], v⟩ ∧ bad = false ∧ 0 ≤ v ∧ v ≤ 4294967295 ∧ (Hid (∀ K W, RowAt W K [.string s, .int .i64 13, .bool false] → Calls Try.prog 36 #[.pointer (some ⟨K, 0, none⟩), .int .i64 4] W fun e w' => e = .returned (.int .i64 v) ∧ RowAt w' K [.string s, .int .i64 17, .bool false] ∧ W.grownBy w' (some K)))
def Kind0 (s : ByteArray) (k q : Int) (x : Rc) (bad : Bool) : Prop := k ≠ 1 ∧ k ≠ 2 ∧ k ≠ 3 ∧ k ≠ 4 ∧ x = ⟨k, q, 0, [], [], 0⟩ ∧ bad = false
def Kind3 (s : ByteArray) (k q : Int) (x : Rc) (bad : Bool) : Prop := ∃ (N M : Nat) (h : Nat → Int) (bd : Nat → Bool), N ≤ 255 ∧ M ≤ N ∧ (Hid (∀ i < M, bd i = false)) ∧ (M = N ∨ M < N ∧ bd M = true) ∧ (Hid (∀ K W, RowAt W K [.string s, .int .i64 13, .bool false] → Calls Try.prog 36 #[.pointer (some ⟨K, 0, none⟩), .int .i64 1] W fun e w' => e = .returned (.int .i64 (N : Int)) ∧ RowAt w' K [.string s, .int .i64 (14 + 2 * ((0 : Nat) : Int)), .bool (bd 0)] ∧ W.grownBy w' (some K))) ∧ (Hid (∀ i, i < M → ∀ K W, RowAt W K [.string s, .int .i64 (14 + 2 * (i : Int)), .bool false] → Calls Try.prog 36 #[.pointer (some ⟨K, 0, none⟩), .int .i64 2] W fun e w' => e = .returned (.int .i64 (h i)) ∧ RowAt w' K [.string s, .int .i64 (14 + 2 * ((i + 1 : Nat) : Int)), .bool (bd (i + 1))] ∧ W.grownBy w' (some K))) ∧ k = 3 ∧ x = ⟨3, q, 0, hls h M, [], 0⟩ ∧ bad = bd M
def Kind2 (s : ByteArray) (k q : Int) (x : Rc) (bad : Bool) : Prop := ∃ (N M : Nat) (h : Nat → Int) (bd : Nat → Bool), N ≤ 255 ∧ M ≤ N ∧ (Hid (∀ i < M, bd i = false)) ∧ (M = N ∨ M < N ∧ bd M = true) ∧ (Hid (∀ K W, RowAt W K [.string s, .int .i64 13, .bool false] → Calls Try.prog 36 #[.pointer (some ⟨K, 0, none⟩), .int .i64 1] W fun e w' => e = .returned (.int .i64 (N : Int)) ∧ RowAt w' K [.string s, .int .i64 (14 + 2 * ((0 : Nat) : Int)), .bool (bd 0)] ∧ W.grownBy w' (some K))) ∧ (Hid (∀ i, i < M → ∀ K W, RowAt W K [.string s, .int .i64 (14 + 2 * (i : Int)), .bool false] → Calls Try.prog 36 #[.pointer (some ⟨K, 0, none⟩), .int .i64 2] W fun e w' => e = .returned (.int .i64 (h i)) ∧ RowAt w' K [.string s, .int .i64 (14 + 2 * ((i + 1 : Nat) : Int)), .bool (bd (i + 1))] ∧ W.grownBy w' (some K))) ∧ ∃ (M2 m3 : Nat) (v : Nat → Int) (bd2 : Nat → Bool), M2 ≤ N ∧ (Hid (∀ i < M2, bd2 i = false)) ∧ (bd M = false → M2 = N ∨ M2 < N ∧ bd2 M2 = true) ∧ (bd M = false → bd2 0 = false) ∧ ((bd M = true → m3 = 0 ∧ bad = true) ∧ (bd M = false → m3 = M2 ∧ bad = bd2 M2)) ∧ (Hid (∀ i, i < M2 → ∀ K W, RowAt W K [.string s, .int .i64 (14 + 2 * (N : Int) + (i : Int)), .bool false] → Calls Try.prog 36 #[.pointer (some ⟨K, 0, none⟩), .int .i64 1] W fun e w' => e = .returned (.int .i64 (v i)) ∧ RowAt w' K [.string s, .int .i64 (14 + 2 * (N : Int) + ((i + 1 : Nat) : Int)), .bool (bd2 (i + 1))] ∧ W.grownBy w' (some K))) ∧ k = 2 ∧ x = ⟨2, q, 0, hls h M, mls (fun i => v i == 1) m3, 0⟩

set_option maxHeartbeats 8000000 in
theorem dec8_k1 (s : ByteArray) (w : World) (hsz : s.size = 128) (k q : Int) (b1 : Bool) (x : Rc) (bad : Bool) (Post : Ending → World → Prop) (Q : ByteArray) (e0 : Int)
    (HP : Hid (∀ W, Calls Try.prog 35 #[.string s, .string ⟨#[71, 76, 74, 119]⟩] W fun e w' => e = .returned (.bool true) ∧ w' = W))
    (HQ : Hid (∀ W, Calls Try.prog 22 #[.string s, .int .i64 5, .int .i64 8] W fun e w' => e = .returned (.tuple #[.int .u64 q, .bool b1]) ∧ W = w'))
    (HG1 : (Hid (∀ K W, RowAt W K [.string s, .int .i64 4, .bool false] → Calls Try.prog 36 #[.pointer (some ⟨K, 0, none⟩), .int .i64 1] W fun e w' => e = .returned (.int .i64 k) ∧ RowAt w' K [.string s, .int .i64 5, .bool false] ∧ W.grownBy w' (some K))))
    (hkk : Kind1 s k q x bad)
    (HE : Hid (∀ ah ch am cm W, NewS W (w.heap.size + 1 + 1 + 1) ah (x.hs.map (Value.int .i64)) → NewS W (w.heap.size + 1 + 1 + 1) am (x.ms.map Value.bool) → Calls Try.prog 11 #[rcV x ah ch am cm] W fun e w' => e = .returned (.tuple #[.string Q, .int .i64 e0]) ∧ Below W.heap.size W w'))
    (hres : Hid (bad = false ∧ e0 = 0 ∧ (Q.toList == s.toList) = true ∧ Post = DecP8 x w ∨ bad = false ∧ e0 = 0 ∧ (Q.toList == s.toList) = false ∧ Post = DecN8 w ∨ bad = false ∧ e0 = 2 ∧ Post = DecN8 w ∨ bad = true ∧ Post = DecN8 w)) :
    Calls Try.prog 15 #[.string s] w Post := by
  have z0 := rowAt_alloc w #[.int .i64 0, .int .u64 0, .int .i64 0, .slice none 0 0, .slice none 0 0, .int .u32 0] 27
  have z1 := rowAt_alloc (w.alloc (.cells #[.int .i64 0, .int .u64 0, .int .i64 0, .slice none 0 0, .slice none 0 0, .int .u32 0] 27)) #[.int .i64 0, .int .u64 0, .int .i64 0, .slice none 0 0, .slice none 0 0, .int .u32 0] 27
  have z2 := rowAt_alloc ((w.alloc (.cells #[.int .i64 0, .int .u64 0, .int .i64 0, .slice none 0 0, .slice none 0 0, .int .u32 0] 27)).alloc (.cells #[.int .i64 0, .int .u64 0, .int .i64 0, .slice none 0 0, .slice none 0 0, .int .u32 0] 27)) #[.string s, .int .i64 4, .bool false] 68
  have y1 := z1.alloc (.cells #[.string s, .int .i64 4, .bool false] 68)
  have y0 := (z0.alloc (.cells #[.int .i64 0, .int .u64 0, .int .i64 0, .slice none 0 0, .slice none 0 0, .int .u32 0] 27)).alloc (.cells #[.string s, .int .i64 4, .bool false] 68)
  have Y : Below w.heap.size w (((w.alloc (.cells #[.int .i64 0, .int .u64 0, .int .i64 0, .slice none 0 0, .slice none 0 0, .int .u32 0] 27)).alloc (.cells #[.int .i64 0, .int .u64 0, .int .i64 0, .slice none 0 0, .slice none 0 0, .int .u32 0] 27)).alloc (.cells #[.string s, .int .i64 4, .bool false] 68)) := by go_grown
  rw [World.size_alloc, World.size_alloc] at z2
  rw [World.size_alloc] at y1
  clear z0 z1
  go_enter Try.func15, Try.ntmps15
  go_wp2_with fail
  refine (HP.out _).mono ?_
  rintro e w2 ⟨rfl, rfl⟩
  go_wp2_with fail
  refine (HG1.out _ _ z2).mono ?_
  rintro e w3 ⟨rfl, r3, g3⟩
  have B3 := grown_below2 Y g3 (by omega) (by simp; omega)
  have x3 := y1.grown g3 (by simp; try omega)
  have u3 := y0.grown g3 (by simp; try omega)
  clear z2 y1 y0 Y g3
  have L0 : w.heap.size < w3.heap.size := u3.lt
  have L1 : w.heap.size + 1 < w3.heap.size := x3.lt
  have L2 : w.heap.size + 1 + 1 < w3.heap.size := r3.lt
  obtain ⟨c0, c1, c2, c3, c4, c5⟩ := sixr_cells x3
  have F0 := x3.frozen 0 (by simp)
  have F1 := x3.frozen 1 (by simp)
  have G1 := r3.frozen 1 (by simp)
  have d1 : w3.cell? ⟨w.heap.size + 1 + 1, 1, none⟩ = some (.int .i64 5) := r3.cell 1 (by simp)
  have x4 := (x3.set 0 (.int .i64 k)).set 1 (.int .u64 q)
  have r5 : RowAt (((w3.setCell ⟨w.heap.size + 1, 0, none⟩ (.int .i64 k)).setCell ⟨w.heap.size + 1, 1, none⟩ (.int .u64 q)).setCell ⟨w.heap.size + 1 + 1, 1, none⟩ (.int .i64 13)) (w.heap.size + 1 + 1) [.string s, .int .i64 13, .bool false] := ((r3.other ⟨w.heap.size + 1, 0, none⟩ (.int .i64 k) (by simp)).other ⟨w.heap.size + 1, 1, none⟩ (.int .u64 q) (by simp)).set 1 (.int .i64 13)
  have x5 : RowAt (((w3.setCell ⟨w.heap.size + 1, 0, none⟩ (.int .i64 k)).setCell ⟨w.heap.size + 1, 1, none⟩ (.int .u64 q)).setCell ⟨w.heap.size + 1 + 1, 1, none⟩ (.int .i64 13)) (w.heap.size + 1) [.int .i64 k, .int .u64 q, .int .i64 0, .slice none 0 0, .slice none 0 0, .int .u32 0] := x4.other ⟨w.heap.size + 1 + 1, 1, none⟩ (.int .i64 13) (by simp; try omega)
  have u5 := ((u3.other ⟨w.heap.size + 1, 0, none⟩ (.int .i64 k) (by simp; try omega)).other ⟨w.heap.size + 1, 1, none⟩ (.int .u64 q) (by simp; try omega)).other ⟨w.heap.size + 1 + 1, 1, none⟩ (.int .i64 13) (by simp; try omega)
  have B5 : Below w.heap.size w (((w3.setCell ⟨w.heap.size + 1, 0, none⟩ (.int .i64 k)).setCell ⟨w.heap.size + 1, 1, none⟩ (.int .u64 q)).setCell ⟨w.heap.size + 1 + 1, 1, none⟩ (.int .i64 13)) := ((B3.setCell (by simp; try omega) (.int .i64 k)).setCell (by simp; try omega) (.int .u64 q)).setCell (by simp; try omega) (.int .i64 13)
  go_wp2_with fail
  refine (HQ.out _).mono ?_
  rintro e w2 ⟨rfl, rfl⟩
  go_upto_block 0 with fail
  clear c0 c1 c2 c3 c4 c5 F0 F1 G1 d1 x4 u3 x3 r3 B3
  have L3 : w.heap.size + 1 + 1 < (((w3.setCell ⟨w.heap.size + 1, 0, none⟩ (.int .i64 k)).setCell ⟨w.heap.size + 1, 1, none⟩ (.int .u64 q)).setCell ⟨w.heap.size + 1 + 1, 1, none⟩ (.int .i64 13)).heap.size := r5.lt
  generalize (((w3.setCell ⟨w.heap.size + 1, 0, none⟩ (.int .i64 k)).setCell ⟨w.heap.size + 1, 1, none⟩ (.int .u64 q)).setCell ⟨w.heap.size + 1 + 1, 1, none⟩ (.int .i64 13)) = w5 at *
  go_cut [] (fun wx => Cut8 s w x bad wx)
  case first =>
    clear HE hres HP HQ HG1
    obtain ⟨c0, c1, c2, c3, c4, c5⟩ := sixr_cells x5
    obtain ⟨v, rfl, rfl, rfl, HG2⟩ := hkk
    go_wp2_with fail
    refine (HG2.out _ _ r5).mono ?_
    rintro e w6 ⟨rfl, r6, g6⟩
    have B6 := grown_below2 B5 g6 (by omega) B5.size
    have x6 := x5.grown g6 (by simp; try omega)
    have u6 := u5.grown g6 (by simp; try omega)
    clear c0 c1 c2 c3 c4 c5 x5 u5 r5 B5 g6
    have c1 := x6.cell 2 (by simp)
    have F0 := x6.frozen 2 (by simp)
    have L4 : w.heap.size + 1 + 1 < w6.heap.size := r6.lt
    have x7 : RowAt (w6.setCell ⟨w.heap.size + 1, 2, none⟩ (.int .i64 v)) (w.heap.size + 1) [.int .i64 1, .int .u64 q, .int .i64 v, .slice none 0 0, .slice none 0 0, .int .u32 0] := x6.set 2 (.int .i64 v)
    have u7 := u6.other ⟨w.heap.size + 1, 2, none⟩ (.int .i64 v) (by simp; try omega)
    have r7 := r6.other ⟨w.heap.size + 1, 2, none⟩ (.int .i64 v) (by simp; try omega)
    have B7 : Below w.heap.size w (w6.setCell ⟨w.heap.size + 1, 2, none⟩ (.int .i64 v)) := B6.setCell (by simp; try omega) _
    go_wp2_with fail
    go_meet
    case rel => exact ⟨none, 0, none, 0, _, u7, x7, r7, .inl rfl, .inl rfl, B7⟩
  case rest =>
    clear hkk x5 u5 r5 B5 L0 L1 L2 L3 HP HQ HG1
    obtain ⟨ah, ch, am, cm, tt, u7, x7, r7, hN, hM, B7⟩ := hcut
    have HNW := Lib.hid hN
    have HMW := Lib.hid hM
    clear hN hM
    obtain ⟨c0, c1, c2, c3, c4, c5⟩ := sixr_cells x7
    have L1 := x7.lt
    have L2 := r7.lt
    go_wp2_with fail
    refine (HE.out ah ch am cm _ HNW.out HMW.out).mono ?_
    rintro e w8 ⟨rfl, hb8⟩
    have x8 := x7.below hb8 x7.lt
    have u8 := u7.below hb8 u7.lt
    have r8 := r7.below hb8 r7.lt
    have B8 := below_chain B7 hb8 B7.size
    have HN8 := Lib.hid (HNW.out.below hb8 (Nat.le_refl _))
    have HM8 := Lib.hid (HMW.out.below hb8 (Nat.le_refl _))
    have d2 : w8.cell? ⟨w.heap.size + 1 + 1, 2, none⟩ = some (.bool bad) := r8.cell 2 (by simp)
    have L8 := r8.lt
    clear c0 c1 c2 c3 c4 c5 hb8 B7 HNW HMW u7 x7 r7 L1 L2
    have y0 := u8.frozen 0 (by simp)
    have y1 := u8.frozen 1 (by simp)
    have y2 := u8.frozen 2 (by simp)
    have y3 := u8.frozen 3 (by simp)
    have y4 := u8.frozen 4 (by simp)
    have y5 := u8.frozen 5 (by simp)
    have hm8 := u8.lt
    obtain ⟨c0, c1, c2, c3, c4, c5⟩ := sixr_cells x8
    obtain ⟨z0, z1, z2, z3, z4, z5⟩ := sixr_cells u8
    rcases hres.out with ⟨rfl, rfl, h1, hP⟩ | ⟨rfl, rfl, h1, hP⟩ | ⟨rfl, rfl, hP⟩ | ⟨rfl, hP⟩
    · have HPo := Lib.hid hP
      clear hP
      go_wp2_with fail
      refine bodyPost_ret (v := .tuple #[rcV x ah ch am cm, .int .i64 0]) ?_ rfl ?_
      · have hfin := ((((((u8.set 0 (.int .i64 x.k)).set 1 (.int .u64 x.q)).set 2 (.int .i64 x.at_)).set 3 (.slice ah x.hs.length ch)).set 4 (.slice am x.ms.length cm)).set 5 (.int .u32 x.sum))
        obtain ⟨t0, t1, t2, t3, t4, t5⟩ := sixr_cells (show RowAt _ _ [.int .i64 x.k, .int .u64 x.q, .int .i64 x.at_, .slice ah x.hs.length ch, .slice am x.ms.length cm, .int .u32 x.sum] from hfin)
        simp [results, Try.results15, go_sem, t0, t1, t2, t3, t4, t5]; done
      · rw [HPo.out]
        refine ⟨ah, ch, am, cm, rfl, ?_, ?_, ?_⟩
        · refine NewS.less (base := w.heap.size + 1 + 1 + 1) ?_ (by omega)
          exact (((((HN8.out.other _ _ (by simp; try omega)).other _ _ (by simp; try omega)).other _ _ (by simp; try omega)).other _ _ (by simp; try omega)).other _ _ (by simp; try omega)).other _ _ (by simp; try omega)
        · refine NewS.less (base := w.heap.size + 1 + 1 + 1) ?_ (by omega)
          exact (((((HM8.out.other _ _ (by simp; try omega)).other _ _ (by simp; try omega)).other _ _ (by simp; try omega)).other _ _ (by simp; try omega)).other _ _ (by simp; try omega)).other _ _ (by simp; try omega)
        · go_grown
    · have HPo := Lib.hid hP
      clear hP
      go_wp2_with fail
      refine bodyPost_ret (v := .tuple #[rv 0 0 0 none 0 0 none 0 0 0, .int .i64 80]) ?_ rfl ?_
      · have hfin := ((((((u8.set 0 (.int .i64 0)).set 1 (.int .u64 0)).set 2 (.int .i64 0)).set 3 (.slice none 0 0)).set 4 (.slice none 0 0)).set 5 (.int .u32 0))
        obtain ⟨t0, t1, t2, t3, t4, t5⟩ := sixr_cells (show RowAt _ _ [.int .i64 0, .int .u64 0, .int .i64 0, .slice none 0 0, .slice none 0 0, .int .u32 0] from hfin)
        simp [results, Try.results15, go_sem, t0, t1, t2, t3, t4, t5]; done
      · rw [HPo.out]
        refine ⟨rfl, ?_⟩
        go_grown
    · have HPo := Lib.hid hP
      clear hP
      go_wp2_with fail
      refine bodyPost_ret (v := .tuple #[rv 0 0 0 none 0 0 none 0 0 0, .int .i64 80]) ?_ rfl ?_
      · have hfin := ((((((u8.set 0 (.int .i64 0)).set 1 (.int .u64 0)).set 2 (.int .i64 0)).set 3 (.slice none 0 0)).set 4 (.slice none 0 0)).set 5 (.int .u32 0))
        obtain ⟨t0, t1, t2, t3, t4, t5⟩ := sixr_cells (show RowAt _ _ [.int .i64 0, .int .u64 0, .int .i64 0, .slice none 0 0, .slice none 0 0, .int .u32 0] from hfin)
        simp [results, Try.results15, go_sem, t0, t1, t2, t3, t4, t5]; done
      · rw [HPo.out]
        refine ⟨rfl, ?_⟩
        go_grown
    · have HPo := Lib.hid hP
      clear hP
      go_wp2_with fail
      refine bodyPost_ret (v := .tuple #[rv 0 0 0 none 0 0 none 0 0 0, .int .i64 80]) ?_ rfl ?_
      · have hfin := ((((((u8.set 0 (.int .i64 0)).set 1 (.int .u64 0)).set 2 (.int .i64 0)).set 3 (.slice none 0 0)).set 4 (.slice none 0 0)).set 5 (.int .u32 0))
        obtain ⟨t0, t1, t2, t3, t4, t5⟩ := sixr_cells (show RowAt _ _ [.int .i64 0, .int .u64 0, .int .i64 0, .slice none 0 0, .slice none 0 0, .int .u32 0] from hfin)
        simp [results, Try.results15, go_sem, t0, t1, t2, t3, t4, t5]; done
      · rw [HPo.out]
        refine ⟨rfl, ?_⟩
        go_grown

set_option maxHeartbeats 8000000 in
theorem dec8_k4 (s : ByteArray) (w : World) (hsz : s.size = 128) (k q : Int) (b1 : Bool) (x : Rc) (bad : Bool) (Post : Ending → World → Prop) (Q : ByteArray) (e0 : Int)
    (HP : Hid (∀ W, Calls Try.prog 35 #[.string s, .string ⟨#[71, 76, 74, 119]⟩] W fun e w' => e = .returned (.bool true) ∧ w' = W))
    (HQ : Hid (∀ W, Calls Try.prog 22 #[.string s, .int .i64 5, .int .i64 8] W fun e w' => e = .returned (.tuple #[.int .u64 q, .bool b1]) ∧ W = w'))
    (HG1 : (Hid (∀ K W, RowAt W K [.string s, .int .i64 4, .bool false] → Calls Try.prog 36 #[.pointer (some ⟨K, 0, none⟩), .int .i64 1] W fun e w' => e = .returned (.int .i64 k) ∧ RowAt w' K [.string s, .int .i64 5, .bool false] ∧ W.grownBy w' (some K))))
    (hkk : Kind4 s k q x bad)
    (HE : Hid (∀ ah ch am cm W, NewS W (w.heap.size + 1 + 1 + 1) ah (x.hs.map (Value.int .i64)) → NewS W (w.heap.size + 1 + 1 + 1) am (x.ms.map Value.bool) → Calls Try.prog 11 #[rcV x ah ch am cm] W fun e w' => e = .returned (.tuple #[.string Q, .int .i64 e0]) ∧ Below W.heap.size W w'))
    (hres : Hid (bad = false ∧ e0 = 0 ∧ (Q.toList == s.toList) = true ∧ Post = DecP8 x w ∨ bad = false ∧ e0 = 0 ∧ (Q.toList == s.toList) = false ∧ Post = DecN8 w ∨ bad = false ∧ e0 = 2 ∧ Post = DecN8 w ∨ bad = true ∧ Post = DecN8 w)) :
    Calls Try.prog 15 #[.string s] w Post := by
  have z0 := rowAt_alloc w #[.int .i64 0, .int .u64 0, .int .i64 0, .slice none 0 0, .slice none 0 0, .int .u32 0] 27
  have z1 := rowAt_alloc (w.alloc (.cells #[.int .i64 0, .int .u64 0, .int .i64 0, .slice none 0 0, .slice none 0 0, .int .u32 0] 27)) #[.int .i64 0, .int .u64 0, .int .i64 0, .slice none 0 0, .slice none 0 0, .int .u32 0] 27
  have z2 := rowAt_alloc ((w.alloc (.cells #[.int .i64 0, .int .u64 0, .int .i64 0, .slice none 0 0, .slice none 0 0, .int .u32 0] 27)).alloc (.cells #[.int .i64 0, .int .u64 0, .int .i64 0, .slice none 0 0, .slice none 0 0, .int .u32 0] 27)) #[.string s, .int .i64 4, .bool false] 68
  have y1 := z1.alloc (.cells #[.string s, .int .i64 4, .bool false] 68)
  have y0 := (z0.alloc (.cells #[.int .i64 0, .int .u64 0, .int .i64 0, .slice none 0 0, .slice none 0 0, .int .u32 0] 27)).alloc (.cells #[.string s, .int .i64 4, .bool false] 68)
  have Y : Below w.heap.size w (((w.alloc (.cells #[.int .i64 0, .int .u64 0, .int .i64 0, .slice none 0 0, .slice none 0 0, .int .u32 0] 27)).alloc (.cells #[.int .i64 0, .int .u64 0, .int .i64 0, .slice none 0 0, .slice none 0 0, .int .u32 0] 27)).alloc (.cells #[.string s, .int .i64 4, .bool false] 68)) := by go_grown
  rw [World.size_alloc, World.size_alloc] at z2
  rw [World.size_alloc] at y1
  clear z0 z1
  go_enter Try.func15, Try.ntmps15
  go_wp2_with fail
  refine (HP.out _).mono ?_
  rintro e w2 ⟨rfl, rfl⟩
  go_wp2_with fail
  refine (HG1.out _ _ z2).mono ?_
  rintro e w3 ⟨rfl, r3, g3⟩
  have B3 := grown_below2 Y g3 (by omega) (by simp; omega)
  have x3 := y1.grown g3 (by simp; try omega)
  have u3 := y0.grown g3 (by simp; try omega)
  clear z2 y1 y0 Y g3
  have L0 : w.heap.size < w3.heap.size := u3.lt
  have L1 : w.heap.size + 1 < w3.heap.size := x3.lt
  have L2 : w.heap.size + 1 + 1 < w3.heap.size := r3.lt
  obtain ⟨c0, c1, c2, c3, c4, c5⟩ := sixr_cells x3
  have F0 := x3.frozen 0 (by simp)
  have F1 := x3.frozen 1 (by simp)
  have G1 := r3.frozen 1 (by simp)
  have d1 : w3.cell? ⟨w.heap.size + 1 + 1, 1, none⟩ = some (.int .i64 5) := r3.cell 1 (by simp)
  have x4 := (x3.set 0 (.int .i64 k)).set 1 (.int .u64 q)
  have r5 : RowAt (((w3.setCell ⟨w.heap.size + 1, 0, none⟩ (.int .i64 k)).setCell ⟨w.heap.size + 1, 1, none⟩ (.int .u64 q)).setCell ⟨w.heap.size + 1 + 1, 1, none⟩ (.int .i64 13)) (w.heap.size + 1 + 1) [.string s, .int .i64 13, .bool false] := ((r3.other ⟨w.heap.size + 1, 0, none⟩ (.int .i64 k) (by simp)).other ⟨w.heap.size + 1, 1, none⟩ (.int .u64 q) (by simp)).set 1 (.int .i64 13)
  have x5 : RowAt (((w3.setCell ⟨w.heap.size + 1, 0, none⟩ (.int .i64 k)).setCell ⟨w.heap.size + 1, 1, none⟩ (.int .u64 q)).setCell ⟨w.heap.size + 1 + 1, 1, none⟩ (.int .i64 13)) (w.heap.size + 1) [.int .i64 k, .int .u64 q, .int .i64 0, .slice none 0 0, .slice none 0 0, .int .u32 0] := x4.other ⟨w.heap.size + 1 + 1, 1, none⟩ (.int .i64 13) (by simp; try omega)
  have u5 := ((u3.other ⟨w.heap.size + 1, 0, none⟩ (.int .i64 k) (by simp; try omega)).other ⟨w.heap.size + 1, 1, none⟩ (.int .u64 q) (by simp; try omega)).other ⟨w.heap.size + 1 + 1, 1, none⟩ (.int .i64 13) (by simp; try omega)
  have B5 : Below w.heap.size w (((w3.setCell ⟨w.heap.size + 1, 0, none⟩ (.int .i64 k)).setCell ⟨w.heap.size + 1, 1, none⟩ (.int .u64 q)).setCell ⟨w.heap.size + 1 + 1, 1, none⟩ (.int .i64 13)) := ((B3.setCell (by simp; try omega) (.int .i64 k)).setCell (by simp; try omega) (.int .u64 q)).setCell (by simp; try omega) (.int .i64 13)
  go_wp2_with fail
  refine (HQ.out _).mono ?_
  rintro e w2 ⟨rfl, rfl⟩
  go_upto_block 0 with fail
  clear c0 c1 c2 c3 c4 c5 F0 F1 G1 d1 x4 u3 x3 r3 B3
  have L3 : w.heap.size + 1 + 1 < (((w3.setCell ⟨w.heap.size + 1, 0, none⟩ (.int .i64 k)).setCell ⟨w.heap.size + 1, 1, none⟩ (.int .u64 q)).setCell ⟨w.heap.size + 1 + 1, 1, none⟩ (.int .i64 13)).heap.size := r5.lt
  generalize (((w3.setCell ⟨w.heap.size + 1, 0, none⟩ (.int .i64 k)).setCell ⟨w.heap.size + 1, 1, none⟩ (.int .u64 q)).setCell ⟨w.heap.size + 1 + 1, 1, none⟩ (.int .i64 13)) = w5 at *
  go_cut [] (fun wx => Cut8 s w x bad wx)
  case first =>
    clear HE hres HP HQ HG1
    obtain ⟨c0, c1, c2, c3, c4, c5⟩ := sixr_cells x5
    obtain ⟨v, rfl, rfl, rfl, hv0, hv1, HG2⟩ := hkk
    go_wp2_with fail
    refine (HG2.out _ _ r5).mono ?_
    rintro e w6 ⟨rfl, r6, g6⟩
    have B6 := grown_below2 B5 g6 (by omega) B5.size
    have x6 := x5.grown g6 (by simp; try omega)
    have u6 := u5.grown g6 (by simp; try omega)
    clear c0 c1 c2 c3 c4 c5 x5 u5 r5 B5 g6
    have c1 := x6.cell 5 (by simp)
    have F0 := x6.frozen 5 (by simp)
    have L4 : w.heap.size + 1 + 1 < w6.heap.size := r6.lt
    have x7 : RowAt (w6.setCell ⟨w.heap.size + 1, 5, none⟩ (.int .u32 v)) (w.heap.size + 1) [.int .i64 4, .int .u64 q, .int .i64 0, .slice none 0 0, .slice none 0 0, .int .u32 v] := x6.set 5 (.int .u32 v)
    have u7 := u6.other ⟨w.heap.size + 1, 5, none⟩ (.int .u32 v) (by simp; try omega)
    have r7 := r6.other ⟨w.heap.size + 1, 5, none⟩ (.int .u32 v) (by simp; try omega)
    have B7 : Below w.heap.size w (w6.setCell ⟨w.heap.size + 1, 5, none⟩ (.int .u32 v)) := B6.setCell (by simp; try omega) _
    go_wp2_with fail
    go_meet
    case rel => exact ⟨none, 0, none, 0, _, u7, x7, r7, .inl rfl, .inl rfl, B7⟩
  case rest =>
    clear hkk x5 u5 r5 B5 L0 L1 L2 L3 HP HQ HG1
    obtain ⟨ah, ch, am, cm, tt, u7, x7, r7, hN, hM, B7⟩ := hcut
    have HNW := Lib.hid hN
    have HMW := Lib.hid hM
    clear hN hM
    obtain ⟨c0, c1, c2, c3, c4, c5⟩ := sixr_cells x7
    have L1 := x7.lt
    have L2 := r7.lt
    go_wp2_with fail
    refine (HE.out ah ch am cm _ HNW.out HMW.out).mono ?_
    rintro e w8 ⟨rfl, hb8⟩
    have x8 := x7.below hb8 x7.lt
    have u8 := u7.below hb8 u7.lt
    have r8 := r7.below hb8 r7.lt
    have B8 := below_chain B7 hb8 B7.size
    have HN8 := Lib.hid (HNW.out.below hb8 (Nat.le_refl _))
    have HM8 := Lib.hid (HMW.out.below hb8 (Nat.le_refl _))
    have d2 : w8.cell? ⟨w.heap.size + 1 + 1, 2, none⟩ = some (.bool bad) := r8.cell 2 (by simp)
    have L8 := r8.lt
    clear c0 c1 c2 c3 c4 c5 hb8 B7 HNW HMW u7 x7 r7 L1 L2
    have y0 := u8.frozen 0 (by simp)
    have y1 := u8.frozen 1 (by simp)
    have y2 := u8.frozen 2 (by simp)
    have y3 := u8.frozen 3 (by simp)
    have y4 := u8.frozen 4 (by simp)
    have y5 := u8.frozen 5 (by simp)
    have hm8 := u8.lt
    obtain ⟨c0, c1, c2, c3, c4, c5⟩ := sixr_cells x8
    obtain ⟨z0, z1, z2, z3, z4, z5⟩ := sixr_cells u8
    rcases hres.out with ⟨rfl, rfl, h1, hP⟩ | ⟨rfl, rfl, h1, hP⟩ | ⟨rfl, rfl, hP⟩ | ⟨rfl, hP⟩
    · have HPo := Lib.hid hP
      clear hP
      go_wp2_with fail
      refine bodyPost_ret (v := .tuple #[rcV x ah ch am cm, .int .i64 0]) ?_ rfl ?_
      · have hfin := ((((((u8.set 0 (.int .i64 x.k)).set 1 (.int .u64 x.q)).set 2 (.int .i64 x.at_)).set 3 (.slice ah x.hs.length ch)).set 4 (.slice am x.ms.length cm)).set 5 (.int .u32 x.sum))
        obtain ⟨t0, t1, t2, t3, t4, t5⟩ := sixr_cells (show RowAt _ _ [.int .i64 x.k, .int .u64 x.q, .int .i64 x.at_, .slice ah x.hs.length ch, .slice am x.ms.length cm, .int .u32 x.sum] from hfin)
        simp [results, Try.results15, go_sem, t0, t1, t2, t3, t4, t5]; done
      · rw [HPo.out]
        refine ⟨ah, ch, am, cm, rfl, ?_, ?_, ?_⟩
        · refine NewS.less (base := w.heap.size + 1 + 1 + 1) ?_ (by omega)
          exact (((((HN8.out.other _ _ (by simp; try omega)).other _ _ (by simp; try omega)).other _ _ (by simp; try omega)).other _ _ (by simp; try omega)).other _ _ (by simp; try omega)).other _ _ (by simp; try omega)
        · refine NewS.less (base := w.heap.size + 1 + 1 + 1) ?_ (by omega)
          exact (((((HM8.out.other _ _ (by simp; try omega)).other _ _ (by simp; try omega)).other _ _ (by simp; try omega)).other _ _ (by simp; try omega)).other _ _ (by simp; try omega)).other _ _ (by simp; try omega)
        · go_grown
    · have HPo := Lib.hid hP
      clear hP
      go_wp2_with fail
      refine bodyPost_ret (v := .tuple #[rv 0 0 0 none 0 0 none 0 0 0, .int .i64 80]) ?_ rfl ?_
      · have hfin := ((((((u8.set 0 (.int .i64 0)).set 1 (.int .u64 0)).set 2 (.int .i64 0)).set 3 (.slice none 0 0)).set 4 (.slice none 0 0)).set 5 (.int .u32 0))
        obtain ⟨t0, t1, t2, t3, t4, t5⟩ := sixr_cells (show RowAt _ _ [.int .i64 0, .int .u64 0, .int .i64 0, .slice none 0 0, .slice none 0 0, .int .u32 0] from hfin)
        simp [results, Try.results15, go_sem, t0, t1, t2, t3, t4, t5]; done
      · rw [HPo.out]
        refine ⟨rfl, ?_⟩
        go_grown
    · have HPo := Lib.hid hP
      clear hP
      go_wp2_with fail
      refine bodyPost_ret (v := .tuple #[rv 0 0 0 none 0 0 none 0 0 0, .int .i64 80]) ?_ rfl ?_
      · have hfin := ((((((u8.set 0 (.int .i64 0)).set 1 (.int .u64 0)).set 2 (.int .i64 0)).set 3 (.slice none 0 0)).set 4 (.slice none 0 0)).set 5 (.int .u32 0))
        obtain ⟨t0, t1, t2, t3, t4, t5⟩ := sixr_cells (show RowAt _ _ [.int .i64 0, .int .u64 0, .int .i64 0, .slice none 0 0, .slice none 0 0, .int .u32 0] from hfin)
        simp [results, Try.results15, go_sem, t0, t1, t2, t3, t4, t5]; done
      · rw [HPo.out]
        refine ⟨rfl, ?_⟩
        go_grown
    · have HPo := Lib.hid hP
      clear hP
      go_wp2_with fail
      refine bodyPost_ret (v := .tuple #[rv 0 0 0 none 0 0 none 0 0 0, .int .i64 80]) ?_ rfl ?_
      · have hfin := ((((((u8.set 0 (.int .i64 0)).set 1 (.int .u64 0)).set 2 (.int .i64 0)).set 3 (.slice none 0 0)).set 4 (.slice none 0 0)).set 5 (.int .u32 0))
        obtain ⟨t0, t1, t2, t3, t4, t5⟩ := sixr_cells (show RowAt _ _ [.int .i64 0, .int .u64 0, .int .i64 0, .slice none 0 0, .slice none 0 0, .int .u32 0] from hfin)
        simp [results, Try.results15, go_sem, t0, t1, t2, t3, t4, t5]; done
      · rw [HPo.out]
        refine ⟨rfl, ?_⟩
        go_grown

set_option maxHeartbeats 8000000 in
theorem dec8_k0 (s : ByteArray) (w : World) (hsz : s.size = 128) (k q : Int) (b1 : Bool) (x : Rc) (bad : Bool) (Post : Ending → World → Prop) (Q : ByteArray) (e0 : Int)
    (HP : Hid (∀ W, Calls Try.prog 35 #[.string s, .string ⟨#[71, 76, 74, 119]⟩] W fun e w' => e = .returned (.bool true) ∧ w' = W))
    (HQ : Hid (∀ W, Calls Try.prog 22 #[.string s, .int .i64 5, .int .i64 8] W fun e w' => e = .returned (.tuple #[.int .u64 q, .bool b1]) ∧ W = w'))
    (HG1 : (Hid (∀ K W, RowAt W K [.string s, .int .i64 4, .bool false] → Calls Try.prog 36 #[.pointer (some ⟨K, 0, none⟩), .int .i64 1] W fun e w' => e = .returned (.int .i64 k) ∧ RowAt w' K [.string s, .int .i64 5, .bool false] ∧ W.grownBy w' (some K))))
    (hkk : Kind0 s k q x bad)
    (HE : Hid (∀ ah ch am cm W, NewS W (w.heap.size + 1 + 1 + 1) ah (x.hs.map (Value.int .i64)) → NewS W (w.heap.size + 1 + 1 + 1) am (x.ms.map Value.bool) → Calls Try.prog 11 #[rcV x ah ch am cm] W fun e w' => e = .returned (.tuple #[.string Q, .int .i64 e0]) ∧ Below W.heap.size W w'))
    (hres : Hid (bad = false ∧ e0 = 0 ∧ (Q.toList == s.toList) = true ∧ Post = DecP8 x w ∨ bad = false ∧ e0 = 0 ∧ (Q.toList == s.toList) = false ∧ Post = DecN8 w ∨ bad = false ∧ e0 = 2 ∧ Post = DecN8 w ∨ bad = true ∧ Post = DecN8 w)) :
    Calls Try.prog 15 #[.string s] w Post := by
  have z0 := rowAt_alloc w #[.int .i64 0, .int .u64 0, .int .i64 0, .slice none 0 0, .slice none 0 0, .int .u32 0] 27
  have z1 := rowAt_alloc (w.alloc (.cells #[.int .i64 0, .int .u64 0, .int .i64 0, .slice none 0 0, .slice none 0 0, .int .u32 0] 27)) #[.int .i64 0, .int .u64 0, .int .i64 0, .slice none 0 0, .slice none 0 0, .int .u32 0] 27
  have z2 := rowAt_alloc ((w.alloc (.cells #[.int .i64 0, .int .u64 0, .int .i64 0, .slice none 0 0, .slice none 0 0, .int .u32 0] 27)).alloc (.cells #[.int .i64 0, .int .u64 0, .int .i64 0, .slice none 0 0, .slice none 0 0, .int .u32 0] 27)) #[.string s, .int .i64 4, .bool false] 68
  have y1 := z1.alloc (.cells #[.string s, .int .i64 4, .bool false] 68)
  have y0 := (z0.alloc (.cells #[.int .i64 0, .int .u64 0, .int .i64 0, .slice none 0 0, .slice none 0 0, .int .u32 0] 27)).alloc (.cells #[.string s, .int .i64 4, .bool false] 68)
  have Y : Below w.heap.size w (((w.alloc (.cells #[.int .i64 0, .int .u64 0, .int .i64 0, .slice none 0 0, .slice none 0 0, .int .u32 0] 27)).alloc (.cells #[.int .i64 0, .int .u64 0, .int .i64 0, .slice none 0 0, .slice none 0 0, .int .u32 0] 27)).alloc (.cells #[.string s, .int .i64 4, .bool false] 68)) := by go_grown
  rw [World.size_alloc, World.size_alloc] at z2
  rw [World.size_alloc] at y1
  clear z0 z1
  go_enter Try.func15, Try.ntmps15
  go_wp2_with fail
  refine (HP.out _).mono ?_
  rintro e w2 ⟨rfl, rfl⟩
  go_wp2_with fail
  refine (HG1.out _ _ z2).mono ?_
  rintro e w3 ⟨rfl, r3, g3⟩
  have B3 := grown_below2 Y g3 (by omega) (by simp; omega)
  have x3 := y1.grown g3 (by simp; try omega)
  have u3 := y0.grown g3 (by simp; try omega)
  clear z2 y1 y0 Y g3
  have L0 : w.heap.size < w3.heap.size := u3.lt
  have L1 : w.heap.size + 1 < w3.heap.size := x3.lt
  have L2 : w.heap.size + 1 + 1 < w3.heap.size := r3.lt
  obtain ⟨c0, c1, c2, c3, c4, c5⟩ := sixr_cells x3
  have F0 := x3.frozen 0 (by simp)
  have F1 := x3.frozen 1 (by simp)
  have G1 := r3.frozen 1 (by simp)
  have d1 : w3.cell? ⟨w.heap.size + 1 + 1, 1, none⟩ = some (.int .i64 5) := r3.cell 1 (by simp)
  have x4 := (x3.set 0 (.int .i64 k)).set 1 (.int .u64 q)
  have r5 : RowAt (((w3.setCell ⟨w.heap.size + 1, 0, none⟩ (.int .i64 k)).setCell ⟨w.heap.size + 1, 1, none⟩ (.int .u64 q)).setCell ⟨w.heap.size + 1 + 1, 1, none⟩ (.int .i64 13)) (w.heap.size + 1 + 1) [.string s, .int .i64 13, .bool false] := ((r3.other ⟨w.heap.size + 1, 0, none⟩ (.int .i64 k) (by simp)).other ⟨w.heap.size + 1, 1, none⟩ (.int .u64 q) (by simp)).set 1 (.int .i64 13)
  have x5 : RowAt (((w3.setCell ⟨w.heap.size + 1, 0, none⟩ (.int .i64 k)).setCell ⟨w.heap.size + 1, 1, none⟩ (.int .u64 q)).setCell ⟨w.heap.size + 1 + 1, 1, none⟩ (.int .i64 13)) (w.heap.size + 1) [.int .i64 k, .int .u64 q, .int .i64 0, .slice none 0 0, .slice none 0 0, .int .u32 0] := x4.other ⟨w.heap.size + 1 + 1, 1, none⟩ (.int .i64 13) (by simp; try omega)
  have u5 := ((u3.other ⟨w.heap.size + 1, 0, none⟩ (.int .i64 k) (by simp; try omega)).other ⟨w.heap.size + 1, 1, none⟩ (.int .u64 q) (by simp; try omega)).other ⟨w.heap.size + 1 + 1, 1, none⟩ (.int .i64 13) (by simp; try omega)
  have B5 : Below w.heap.size w (((w3.setCell ⟨w.heap.size + 1, 0, none⟩ (.int .i64 k)).setCell ⟨w.heap.size + 1, 1, none⟩ (.int .u64 q)).setCell ⟨w.heap.size + 1 + 1, 1, none⟩ (.int .i64 13)) := ((B3.setCell (by simp; try omega) (.int .i64 k)).setCell (by simp; try omega) (.int .u64 q)).setCell (by simp; try omega) (.int .i64 13)
  go_wp2_with fail
  refine (HQ.out _).mono ?_
  rintro e w2 ⟨rfl, rfl⟩
  go_upto_block 0 with fail
  clear c0 c1 c2 c3 c4 c5 F0 F1 G1 d1 x4 u3 x3 r3 B3
  have L3 : w.heap.size + 1 + 1 < (((w3.setCell ⟨w.heap.size + 1, 0, none⟩ (.int .i64 k)).setCell ⟨w.heap.size + 1, 1, none⟩ (.int .u64 q)).setCell ⟨w.heap.size + 1 + 1, 1, none⟩ (.int .i64 13)).heap.size := r5.lt
  generalize (((w3.setCell ⟨w.heap.size + 1, 0, none⟩ (.int .i64 k)).setCell ⟨w.heap.size + 1, 1, none⟩ (.int .u64 q)).setCell ⟨w.heap.size + 1 + 1, 1, none⟩ (.int .i64 13)) = w5 at *
  go_cut [] (fun wx => Cut8 s w x bad wx)
  case first =>
    clear HE hres HP HQ HG1
    obtain ⟨c0, c1, c2, c3, c4, c5⟩ := sixr_cells x5
    obtain ⟨n1, n2, n3, n4, rfl, rfl⟩ := hkk
    have m1 : (k == 1) = false := by simpa using n1
    have m2 : (k == 2) = false := by simpa using n2
    have m3 : (k == 3) = false := by simpa using n3
    have m4 : (k == 4) = false := by simpa using n4
    clear n1 n2 n3 n4
    go_wp2_with fail
    go_meet
    case rel => exact ⟨none, 0, none, 0, _, u5, x5, r5, .inl rfl, .inl rfl, B5⟩
  case rest =>
    clear hkk x5 u5 r5 B5 L0 L1 L2 L3 HP HQ HG1
    obtain ⟨ah, ch, am, cm, tt, u7, x7, r7, hN, hM, B7⟩ := hcut
    have HNW := Lib.hid hN
    have HMW := Lib.hid hM
    clear hN hM
    obtain ⟨c0, c1, c2, c3, c4, c5⟩ := sixr_cells x7
    have L1 := x7.lt
    have L2 := r7.lt
    go_wp2_with fail
    refine (HE.out ah ch am cm _ HNW.out HMW.out).mono ?_
    rintro e w8 ⟨rfl, hb8⟩
    have x8 := x7.below hb8 x7.lt
    have u8 := u7.below hb8 u7.lt
    have r8 := r7.below hb8 r7.lt
    have B8 := below_chain B7 hb8 B7.size
    have HN8 := Lib.hid (HNW.out.below hb8 (Nat.le_refl _))
    have HM8 := Lib.hid (HMW.out.below hb8 (Nat.le_refl _))
    have d2 : w8.cell? ⟨w.heap.size + 1 + 1, 2, none⟩ = some (.bool bad) := r8.cell 2 (by simp)
    have L8 := r8.lt
    clear c0 c1 c2 c3 c4 c5 hb8 B7 HNW HMW u7 x7 r7 L1 L2
    have y0 := u8.frozen 0 (by simp)
    have y1 := u8.frozen 1 (by simp)
    have y2 := u8.frozen 2 (by simp)
    have y3 := u8.frozen 3 (by simp)
    have y4 := u8.frozen 4 (by simp)
    have y5 := u8.frozen 5 (by simp)
    have hm8 := u8.lt
    obtain ⟨c0, c1, c2, c3, c4, c5⟩ := sixr_cells x8
    obtain ⟨z0, z1, z2, z3, z4, z5⟩ := sixr_cells u8
    rcases hres.out with ⟨rfl, rfl, h1, hP⟩ | ⟨rfl, rfl, h1, hP⟩ | ⟨rfl, rfl, hP⟩ | ⟨rfl, hP⟩
    · have HPo := Lib.hid hP
      clear hP
      go_wp2_with fail
      refine bodyPost_ret (v := .tuple #[rcV x ah ch am cm, .int .i64 0]) ?_ rfl ?_
      · have hfin := ((((((u8.set 0 (.int .i64 x.k)).set 1 (.int .u64 x.q)).set 2 (.int .i64 x.at_)).set 3 (.slice ah x.hs.length ch)).set 4 (.slice am x.ms.length cm)).set 5 (.int .u32 x.sum))
        obtain ⟨t0, t1, t2, t3, t4, t5⟩ := sixr_cells (show RowAt _ _ [.int .i64 x.k, .int .u64 x.q, .int .i64 x.at_, .slice ah x.hs.length ch, .slice am x.ms.length cm, .int .u32 x.sum] from hfin)
        simp [results, Try.results15, go_sem, t0, t1, t2, t3, t4, t5]; done
      · rw [HPo.out]
        refine ⟨ah, ch, am, cm, rfl, ?_, ?_, ?_⟩
        · refine NewS.less (base := w.heap.size + 1 + 1 + 1) ?_ (by omega)
          exact (((((HN8.out.other _ _ (by simp; try omega)).other _ _ (by simp; try omega)).other _ _ (by simp; try omega)).other _ _ (by simp; try omega)).other _ _ (by simp; try omega)).other _ _ (by simp; try omega)
        · refine NewS.less (base := w.heap.size + 1 + 1 + 1) ?_ (by omega)
          exact (((((HM8.out.other _ _ (by simp; try omega)).other _ _ (by simp; try omega)).other _ _ (by simp; try omega)).other _ _ (by simp; try omega)).other _ _ (by simp; try omega)).other _ _ (by simp; try omega)
        · go_grown
    · have HPo := Lib.hid hP
      clear hP
      go_wp2_with fail
      refine bodyPost_ret (v := .tuple #[rv 0 0 0 none 0 0 none 0 0 0, .int .i64 80]) ?_ rfl ?_
      · have hfin := ((((((u8.set 0 (.int .i64 0)).set 1 (.int .u64 0)).set 2 (.int .i64 0)).set 3 (.slice none 0 0)).set 4 (.slice none 0 0)).set 5 (.int .u32 0))
        obtain ⟨t0, t1, t2, t3, t4, t5⟩ := sixr_cells (show RowAt _ _ [.int .i64 0, .int .u64 0, .int .i64 0, .slice none 0 0, .slice none 0 0, .int .u32 0] from hfin)
        simp [results, Try.results15, go_sem, t0, t1, t2, t3, t4, t5]; done
      · rw [HPo.out]
        refine ⟨rfl, ?_⟩
        go_grown
    · have HPo := Lib.hid hP
      clear hP
      go_wp2_with fail
      refine bodyPost_ret (v := .tuple #[rv 0 0 0 none 0 0 none 0 0 0, .int .i64 80]) ?_ rfl ?_
      · have hfin := ((((((u8.set 0 (.int .i64 0)).set 1 (.int .u64 0)).set 2 (.int .i64 0)).set 3 (.slice none 0 0)).set 4 (.slice none 0 0)).set 5 (.int .u32 0))
        obtain ⟨t0, t1, t2, t3, t4, t5⟩ := sixr_cells (show RowAt _ _ [.int .i64 0, .int .u64 0, .int .i64 0, .slice none 0 0, .slice none 0 0, .int .u32 0] from hfin)
        simp [results, Try.results15, go_sem, t0, t1, t2, t3, t4, t5]; done
      · rw [HPo.out]
        refine ⟨rfl, ?_⟩
        go_grown
    · have HPo := Lib.hid hP
      clear hP
      go_wp2_with fail
      refine bodyPost_ret (v := .tuple #[rv 0 0 0 none 0 0 none 0 0 0, .int .i64 80]) ?_ rfl ?_
      · have hfin := ((((((u8.set 0 (.int .i64 0)).set 1 (.int .u64 0)).set 2 (.int .i64 0)).set 3 (.slice none 0 0)).set 4 (.slice none 0 0)).set 5 (.int .u32 0))
        obtain ⟨t0, t1, t2, t3, t4, t5⟩ := sixr_cells (show RowAt _ _ [.int .i64 0, .int .u64 0, .int .i64 0, .slice none 0 0, .slice none 0 0, .int .u32 0] from hfin)
        simp [results, Try.results15, go_sem, t0, t1, t2, t3, t4, t5]; done
      · rw [HPo.out]
        refine ⟨rfl, ?_⟩
        go_grown

end Go.Proofs.Ytfgnemddamebaaa
