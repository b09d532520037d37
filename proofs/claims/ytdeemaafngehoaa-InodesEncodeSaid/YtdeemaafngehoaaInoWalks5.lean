/- Walks: an inode decoded. -/
import Derived.Test.YtdeemaafngehoaaInoWalks4
import Derived.Outline
set_option linter.unusedVariables false
set_option linter.unusedSimpArgs false
set_option maxRecDepth 100000
namespace Go.Proofs.Ytdeemaafngehoaa
open Go.RowKit Go.Joins

theorem inoDec_get8 {s : ByteArray} (h : inoDec s = true) : getIOk s 4 8 = true := by
  obtain ⟨x, hx, rfl⟩ := inoDec_iff.1 h
  have := (stg_last x)
  have hb : x.bytes = fldB x.hdF ++ (words4 (flE x.es) ++ List.replicate (50 - 12 * x.es.length) 0) := by rw [Ino.bytes, Ino.hd, List.append_assoc]
  have F := fields_at x.hdF (words4 (flE x.es) ++ List.replicate (50 - 12 * x.es.length) 0) 3 (by simp [Ino.hdF]) (Ino.hdF_small hx)
  rw [← hb, fldB_len] at F
  exact F.1

/-- a slice of new memory that holds entries -/
def NewE (w : World) (base : Nat) (a : Option Addr) (es : List (Int × Int × Int)) : Prop := es = [] ∨ ∃ g, a = some ⟨g, 0, none⟩ ∧ base ≤ g ∧ RowAt w g (ecells es)
theorem NewE.ents {w : World} {base : Nat} {a : Option Addr} {es : List (Int × Int × Int)} (h : NewE w base a es) : EntS w a es := by
  rcases h with rfl | ⟨g, rfl, _, hr⟩
  · exact .inl rfl
  · exact .inr ⟨g, 0, rfl, entAt_row hr⟩
theorem NewE.below {w w' : World} {base K : Nat} {a : Option Addr} {es : List (Int × Int × Int)} (h : NewE w base a es) (hb : Below K w w') (hK : w.heap.size ≤ K) : NewE w' base a es := by
  rcases h with rfl | ⟨g, rfl, h1, hr⟩
  · exact .inl rfl
  · exact .inr ⟨g, rfl, h1, hr.below hb (by have := hr.lt; omega)⟩
theorem NewE.other {w : World} {base : Nat} {a : Option Addr} {es : List (Int × Int × Int)} (h : NewE w base a es) (p : Addr) (v : Value) (hp : p.block < base) : NewE (w.setCell p v) base a es := by
  rcases h with rfl | ⟨g, rfl, h1, hr⟩
  · exact .inl rfl
  · exact .inr ⟨g, rfl, h1, hr.other _ _ (by omega)⟩
theorem NewE.less {w : World} {base base' : Nat} {a : Option Addr} {es : List (Int × Int × Int)} (h : NewE w base a es) (hp : base' ≤ base) : NewE w base' a es := by
  rcases h with rfl | ⟨g, rfl, h1, hr⟩
  · exact .inl rfl
  · exact .inr ⟨g, rfl, by omega, hr⟩

/-- what Decode answers, if it answers an inode -/
def DecP (x : Ino) (w : World) (e : Ending) (w' : World) : Prop := ∃ a cap, e = .returned (.tuple #[inoV x a cap, .int .i64 0]) ∧ NewE w' w.heap.size a x.es ∧ Below w.heap.size w w'
/-- .. if it answers an error -/
def DecN (w : World) (e : Ending) (w' : World) : Prop := e = .returned (.tuple #[iv 0 false 0 0 0 none 0 0, .int .i64 80]) ∧ Below w.heap.size w w'

theorem one_cell {w : World} {K : Nat} {v : Value} (h : RowAt w K [v]) : w.cell? ⟨K, 0, none⟩ = some v := h.cell 0 (by simp)

theorem sixp_index (K1 K2 K3 : Nat) (j : Nat) (hj : j < 6) : ∀ w, (Instr.index 81 (.agg #[.int .i64 0, .int .i64 1, .pointer (some ⟨K1, 0, none⟩), .int .i64 1, .int .i64 1, .pointer (some ⟨K3, 0, none⟩), .int .i64 2, .int .i64 2, .pointer (some ⟨K1, 2, none⟩), .int .i64 4, .int .i64 8, .pointer (some ⟨K1, 3, none⟩), .int .i64 12, .int .i64 1, .pointer (some ⟨K1, 4, none⟩), .int .i64 13, .int .i64 1, .pointer (some ⟨K2, 0, none⟩)]) (.int .i64 (j : Int))).run Try.prog w = .ok (.agg #[.int .i64 ([0, 1, 2, 4, 12, 13][j]'(by simpa using hj)), .int .i64 ([1, 1, 2, 8, 1, 1][j]'(by simpa using hj)), .pointer (some ([⟨K1, 0, none⟩, ⟨K3, 0, none⟩, ⟨K1, 2, none⟩, ⟨K1, 3, none⟩, ⟨K1, 4, none⟩, ⟨K2, 0, none⟩][j]'(by simpa using hj)))]) w := by
  obtain rfl | rfl | rfl | rfl | rfl | rfl : j = 0 ∨ j = 1 ∨ j = 2 ∨ j = 3 ∨ j = 4 ∨ j = 5 := by omega
  · exact fun _ => by kernel_rfl
  · exact fun _ => by kernel_rfl
  · exact fun _ => by kernel_rfl
  · exact fun _ => by kernel_rfl
  · exact fun _ => by kernel_rfl
  · exact fun _ => by kernel_rfl

/-- the inode behind so many fields -/
def xr (g : Int → Int → Int) (j : Nat) : List Value := [.int .i64 (if 0 < j then g 0 1 else 0), .bool false, .int .i64 (if 2 < j then g 2 2 else 0), .int .i64 (if 3 < j then g 4 8 else 0), .int .i64 (if 4 < j then g 12 1 else 0), .slice none 0 0]
def pr (g : Int → Int → Int) (j : Nat) : List Value := [.int .i64 (if 1 < j then g 1 1 else 0)]
def mr (g : Int → Int → Int) (j : Nat) : List Value := [.int .i64 (if 5 < j then g 13 1 else 0)]

theorem fits64 {s : ByteArray} (hs : s.size = 64) (h8 : getIOk s 4 8 = true) (j : Nat) (hj : j < 6) : getIOk s ([0, 1, 2, 4, 12, 13][j]'(by simpa using hj)) ([1, 1, 2, 8, 1, 1][j]'(by simpa using hj)) = true := by
  obtain rfl | rfl | rfl | rfl | rfl | rfl : j = 0 ∨ j = 1 ∨ j = 2 ∨ j = 3 ∨ j = 4 ∨ j = 5 := by omega
  · show getIOk s 0 1 = true; exact getIOk_small (by rw [hs]; decide) (by decide)
  · show getIOk s 1 1 = true; exact getIOk_small (by rw [hs]; decide) (by decide)
  · show getIOk s 2 2 = true; exact getIOk_small (by rw [hs]; decide) (by decide)
  · exact h8
  · show getIOk s 12 1 = true; exact getIOk_small (by rw [hs]; decide) (by decide)
  · show getIOk s 13 1 = true; exact getIOk_small (by rw [hs]; decide) (by decide)

set_option maxHeartbeats 4000000 in
theorem idec_mid (s : ByteArray) (w : World) (hs : s.size = 64) (h8 : getIOk s 4 8 = true) (Post : Ending → World → Prop) (Q : ByteArray) (e0 : Int)
    (HC1 : Hid (∀ a cap W, NewE W (w.heap.size + 1 + 1 + 1 + 1) a (inoP s).es → Calls Try.prog 17 #[inoV (inoP s) a cap] W fun e w' => e = .returned (.tuple #[.string Q, .int .i64 e0]) ∧ Below W.heap.size W w'))
    (hres : Hid (e0 = 0 ∧ (Q.toList == s.toList) = true ∧ Post = DecP (inoP s) w ∨ e0 = 0 ∧ (Q.toList == s.toList) = false ∧ Post = DecN w ∨ e0 = 2 ∧ Post = DecN w)) :
    Calls Try.prog 23 #[.string s] w Post := by
  have hsm : s.size ≤ maxLen := by rw [hs]; decide
  obtain ⟨g, hg⟩ : ∃ g : Int → Int → Int, g = getIV s := ⟨_, rfl⟩
  have HG := Lib.hid (fun (a n : Int) (hok : getIOk s a n = true) W => by have := getint_any s a n W hsm; rw [← hg, hok] at this; exact this : ∀ (a n : Int), getIOk s a n = true → ∀ W, Calls Try.prog 35 #[.string s, .int .i64 a, .int .i64 n] W fun e w' => e = .returned (.tuple #[.int .i64 (g a n), .bool true]) ∧ W = w')
  have HF := Lib.hid (fun j hj => fits64 hs h8 j hj)
  have HX : Hid (inoP s = inoOf g 4) := by show _ = _; rw [hg]; rfl
  have hg13 : 0 ≤ g 13 1 ∧ g 13 1 ≤ 9223372036854775807 := by rw [hg]; exact getIV_le _ _ _
  have HN : Hid (∀ (n : Nat) W, n ≤ 4 → Calls Try.prog 50 #[.string s, .int .i64 14, .int .i64 (n : Int)] W fun e w' => ∃ v, e = .returned v ∧ OwnE w' W.heap.size v (entsOf g n) ∧ Below W.heap.size W w') := by
    intro n W hn
    have := getEnts_any s n W hsm (by omega)
    rw [hg]; exact this
  have HD : Hid (∀ a cap W, NewE W (w.heap.size + 1 + 1 + 1 + 1) a (entsOf g (min (g 13 1).toNat 4)) → Calls Try.prog 17 #[iv (g 0 1) (g 1 1 == 1) (g 2 2) (g 4 8) (g 12 1) a (entsOf g (min (g 13 1).toNat 4)).length cap] W fun e w' => e = .returned (.tuple #[.string Q, .int .i64 e0]) ∧ Below W.heap.size W w') := by
    have := HC1.out
    rw [HX.out] at this
    exact this
  clear HC1
  have HI := Lib.hid (fun j hj => sixp_index (w.heap.size + 1) (w.heap.size + 1 + 1) (w.heap.size + 1 + 1 + 1) j hj)
  clear hg h8
  have HS := Lib.hid hs
  have hs1 : ((s.size : Int) != 64) = false := by rw [hs]; rfl
  clear hs
  go_enter Try.func23, Try.ntmps23
  go_wp2_with fail
  go_loopw [28] (fun jj wr => ∃ j : Nat, j ≤ 6 ∧ jj = .int .i64 j ∧ RowAt wr w.heap.size [.int .i64 0, .bool false, .int .i64 0, .int .i64 0, .int .i64 0, .slice none 0 0] ∧ RowAt wr (w.heap.size + 1) (xr g j) ∧ RowAt wr (w.heap.size + 1 + 1) (mr g j) ∧ RowAt wr (w.heap.size + 1 + 1 + 1) (pr g j) ∧ Below w.heap.size w wr) (fun jj _ => 6 - (intOf jj).toNat)
  case atStart =>
    have r0 := rowAt_alloc w #[.int .i64 0, .bool false, .int .i64 0, .int .i64 0, .int .i64 0, .slice none 0 0] 24
    have r1 := rowAt_alloc (w.alloc (.cells #[.int .i64 0, .bool false, .int .i64 0, .int .i64 0, .int .i64 0, .slice none 0 0] 24)) #[.int .i64 0, .bool false, .int .i64 0, .int .i64 0, .int .i64 0, .slice none 0 0] 24
    have r2 := rowAt_alloc ((w.alloc (.cells #[.int .i64 0, .bool false, .int .i64 0, .int .i64 0, .int .i64 0, .slice none 0 0] 24)).alloc (.cells #[.int .i64 0, .bool false, .int .i64 0, .int .i64 0, .int .i64 0, .slice none 0 0] 24)) #[.int .i64 0] 3
    have r3 := rowAt_alloc (((w.alloc (.cells #[.int .i64 0, .bool false, .int .i64 0, .int .i64 0, .int .i64 0, .slice none 0 0] 24)).alloc (.cells #[.int .i64 0, .bool false, .int .i64 0, .int .i64 0, .int .i64 0, .slice none 0 0] 24)).alloc (.cells #[.int .i64 0] 3)) #[.int .i64 0] 3
    simp only [World.size_alloc] at r1 r2 r3
    refine ⟨0, by omega, rfl, ((r0.alloc _).alloc _).alloc _, (r1.alloc _).alloc _, r2.alloc _, r3, ?_⟩
    exact ((((Below.refl _ _).alloc (Nat.le_refl _) _).alloc (by simp) _).alloc (by simp; omega) _).alloc (by simp; omega) _
  case round =>
    obtain ⟨j, hj, rfl, q0, q1, q2, q3, B1⟩ := hrel
    by_cases hlt : j < 6
    · have hx := HI.out j hlt
      have hok := HF.out j hlt
      obtain rfl | rfl | rfl | rfl | rfl | rfl : j = 0 ∨ j = 1 ∨ j = 2 ∨ j = 3 ∨ j = 4 ∨ j = 5 := by omega
      · obtain ⟨old, hc⟩ := q1.there 0 (by simp [xr, pr, mr])
        have hfz := q1.frozen 0 (by simp [xr, pr, mr])
        have hlb := q1.lt
        have hx' : ∀ w1, (Instr.index 81 (.agg #[.int .i64 0, .int .i64 1, .pointer (some ⟨w.heap.size + 1, 0, none⟩), .int .i64 1, .int .i64 1, .pointer (some ⟨w.heap.size + 1 + 1 + 1, 0, none⟩), .int .i64 2, .int .i64 2, .pointer (some ⟨w.heap.size + 1, 2, none⟩), .int .i64 4, .int .i64 8, .pointer (some ⟨w.heap.size + 1, 3, none⟩), .int .i64 12, .int .i64 1, .pointer (some ⟨w.heap.size + 1, 4, none⟩), .int .i64 13, .int .i64 1, .pointer (some ⟨w.heap.size + 1 + 1, 0, none⟩)]) (.int .i64 0)).run Try.prog w1 = .ok (.agg #[.int .i64 0, .int .i64 1, .pointer (some ⟨w.heap.size + 1, 0, none⟩)]) w1 := hx
        clear hx
        have HC := Lib.hid (HG.out 0 1 hok)
        clear hok
        go_wp2_with fail
        refine (HC.out _).mono ?_
        rintro e w4 ⟨rfl, rfl⟩
        go_wp2_with fail
        go_roundw
        case rel => exact ⟨1, by omega, by go_num, ((q0.other _ _ (by first | (simp; done) | (simp; omega) | omega)).alloc _), ((q1.set 0 _).alloc _), ((q2.other _ _ (by first | (simp; done) | (simp; omega) | omega)).alloc _), ((q3.other _ _ (by first | (simp; done) | (simp; omega) | omega)).alloc _), (B1.setCell (by first | (simp; done) | (simp; omega) | omega) _).alloc (by simp; exact B1.size) _⟩
        case measure => simp [intOf]
      · obtain ⟨old, hc⟩ := q3.there 0 (by simp [xr, pr, mr])
        have hfz := q3.frozen 0 (by simp [xr, pr, mr])
        have hlb := q3.lt
        have hx' : ∀ w1, (Instr.index 81 (.agg #[.int .i64 0, .int .i64 1, .pointer (some ⟨w.heap.size + 1, 0, none⟩), .int .i64 1, .int .i64 1, .pointer (some ⟨w.heap.size + 1 + 1 + 1, 0, none⟩), .int .i64 2, .int .i64 2, .pointer (some ⟨w.heap.size + 1, 2, none⟩), .int .i64 4, .int .i64 8, .pointer (some ⟨w.heap.size + 1, 3, none⟩), .int .i64 12, .int .i64 1, .pointer (some ⟨w.heap.size + 1, 4, none⟩), .int .i64 13, .int .i64 1, .pointer (some ⟨w.heap.size + 1 + 1, 0, none⟩)]) (.int .i64 1)).run Try.prog w1 = .ok (.agg #[.int .i64 1, .int .i64 1, .pointer (some ⟨w.heap.size + 1 + 1 + 1, 0, none⟩)]) w1 := hx
        clear hx
        have HC := Lib.hid (HG.out 1 1 hok)
        clear hok
        go_wp2_with fail
        refine (HC.out _).mono ?_
        rintro e w4 ⟨rfl, rfl⟩
        go_wp2_with fail
        go_roundw
        case rel => exact ⟨2, by omega, by go_num, ((q0.other _ _ (by first | (simp; done) | (simp; omega) | omega)).alloc _), ((q1.other _ _ (by first | (simp; done) | (simp; omega) | omega)).alloc _), ((q2.other _ _ (by first | (simp; done) | (simp; omega) | omega)).alloc _), ((q3.set 0 _).alloc _), (B1.setCell (by first | (simp; done) | (simp; omega) | omega) _).alloc (by simp; exact B1.size) _⟩
        case measure => simp [intOf]
      · obtain ⟨old, hc⟩ := q1.there 2 (by simp [xr, pr, mr])
        have hfz := q1.frozen 2 (by simp [xr, pr, mr])
        have hlb := q1.lt
        have hx' : ∀ w1, (Instr.index 81 (.agg #[.int .i64 0, .int .i64 1, .pointer (some ⟨w.heap.size + 1, 0, none⟩), .int .i64 1, .int .i64 1, .pointer (some ⟨w.heap.size + 1 + 1 + 1, 0, none⟩), .int .i64 2, .int .i64 2, .pointer (some ⟨w.heap.size + 1, 2, none⟩), .int .i64 4, .int .i64 8, .pointer (some ⟨w.heap.size + 1, 3, none⟩), .int .i64 12, .int .i64 1, .pointer (some ⟨w.heap.size + 1, 4, none⟩), .int .i64 13, .int .i64 1, .pointer (some ⟨w.heap.size + 1 + 1, 0, none⟩)]) (.int .i64 2)).run Try.prog w1 = .ok (.agg #[.int .i64 2, .int .i64 2, .pointer (some ⟨w.heap.size + 1, 2, none⟩)]) w1 := hx
        clear hx
        have HC := Lib.hid (HG.out 2 2 hok)
        clear hok
        go_wp2_with fail
        refine (HC.out _).mono ?_
        rintro e w4 ⟨rfl, rfl⟩
        go_wp2_with fail
        go_roundw
        case rel => exact ⟨3, by omega, by go_num, ((q0.other _ _ (by first | (simp; done) | (simp; omega) | omega)).alloc _), ((q1.set 2 _).alloc _), ((q2.other _ _ (by first | (simp; done) | (simp; omega) | omega)).alloc _), ((q3.other _ _ (by first | (simp; done) | (simp; omega) | omega)).alloc _), (B1.setCell (by first | (simp; done) | (simp; omega) | omega) _).alloc (by simp; exact B1.size) _⟩
        case measure => simp [intOf]
      · obtain ⟨old, hc⟩ := q1.there 3 (by simp [xr, pr, mr])
        have hfz := q1.frozen 3 (by simp [xr, pr, mr])
        have hlb := q1.lt
        have hx' : ∀ w1, (Instr.index 81 (.agg #[.int .i64 0, .int .i64 1, .pointer (some ⟨w.heap.size + 1, 0, none⟩), .int .i64 1, .int .i64 1, .pointer (some ⟨w.heap.size + 1 + 1 + 1, 0, none⟩), .int .i64 2, .int .i64 2, .pointer (some ⟨w.heap.size + 1, 2, none⟩), .int .i64 4, .int .i64 8, .pointer (some ⟨w.heap.size + 1, 3, none⟩), .int .i64 12, .int .i64 1, .pointer (some ⟨w.heap.size + 1, 4, none⟩), .int .i64 13, .int .i64 1, .pointer (some ⟨w.heap.size + 1 + 1, 0, none⟩)]) (.int .i64 3)).run Try.prog w1 = .ok (.agg #[.int .i64 4, .int .i64 8, .pointer (some ⟨w.heap.size + 1, 3, none⟩)]) w1 := hx
        clear hx
        have HC := Lib.hid (HG.out 4 8 hok)
        clear hok
        go_wp2_with fail
        refine (HC.out _).mono ?_
        rintro e w4 ⟨rfl, rfl⟩
        go_wp2_with fail
        go_roundw
        case rel => exact ⟨4, by omega, by go_num, ((q0.other _ _ (by first | (simp; done) | (simp; omega) | omega)).alloc _), ((q1.set 3 _).alloc _), ((q2.other _ _ (by first | (simp; done) | (simp; omega) | omega)).alloc _), ((q3.other _ _ (by first | (simp; done) | (simp; omega) | omega)).alloc _), (B1.setCell (by first | (simp; done) | (simp; omega) | omega) _).alloc (by simp; exact B1.size) _⟩
        case measure => simp [intOf]
      · obtain ⟨old, hc⟩ := q1.there 4 (by simp [xr, pr, mr])
        have hfz := q1.frozen 4 (by simp [xr, pr, mr])
        have hlb := q1.lt
        have hx' : ∀ w1, (Instr.index 81 (.agg #[.int .i64 0, .int .i64 1, .pointer (some ⟨w.heap.size + 1, 0, none⟩), .int .i64 1, .int .i64 1, .pointer (some ⟨w.heap.size + 1 + 1 + 1, 0, none⟩), .int .i64 2, .int .i64 2, .pointer (some ⟨w.heap.size + 1, 2, none⟩), .int .i64 4, .int .i64 8, .pointer (some ⟨w.heap.size + 1, 3, none⟩), .int .i64 12, .int .i64 1, .pointer (some ⟨w.heap.size + 1, 4, none⟩), .int .i64 13, .int .i64 1, .pointer (some ⟨w.heap.size + 1 + 1, 0, none⟩)]) (.int .i64 4)).run Try.prog w1 = .ok (.agg #[.int .i64 12, .int .i64 1, .pointer (some ⟨w.heap.size + 1, 4, none⟩)]) w1 := hx
        clear hx
        have HC := Lib.hid (HG.out 12 1 hok)
        clear hok
        go_wp2_with fail
        refine (HC.out _).mono ?_
        rintro e w4 ⟨rfl, rfl⟩
        go_wp2_with fail
        go_roundw
        case rel => exact ⟨5, by omega, by go_num, ((q0.other _ _ (by first | (simp; done) | (simp; omega) | omega)).alloc _), ((q1.set 4 _).alloc _), ((q2.other _ _ (by first | (simp; done) | (simp; omega) | omega)).alloc _), ((q3.other _ _ (by first | (simp; done) | (simp; omega) | omega)).alloc _), (B1.setCell (by first | (simp; done) | (simp; omega) | omega) _).alloc (by simp; exact B1.size) _⟩
        case measure => simp [intOf]
      · obtain ⟨old, hc⟩ := q2.there 0 (by simp [xr, pr, mr])
        have hfz := q2.frozen 0 (by simp [xr, pr, mr])
        have hlb := q2.lt
        have hx' : ∀ w1, (Instr.index 81 (.agg #[.int .i64 0, .int .i64 1, .pointer (some ⟨w.heap.size + 1, 0, none⟩), .int .i64 1, .int .i64 1, .pointer (some ⟨w.heap.size + 1 + 1 + 1, 0, none⟩), .int .i64 2, .int .i64 2, .pointer (some ⟨w.heap.size + 1, 2, none⟩), .int .i64 4, .int .i64 8, .pointer (some ⟨w.heap.size + 1, 3, none⟩), .int .i64 12, .int .i64 1, .pointer (some ⟨w.heap.size + 1, 4, none⟩), .int .i64 13, .int .i64 1, .pointer (some ⟨w.heap.size + 1 + 1, 0, none⟩)]) (.int .i64 5)).run Try.prog w1 = .ok (.agg #[.int .i64 13, .int .i64 1, .pointer (some ⟨w.heap.size + 1 + 1, 0, none⟩)]) w1 := hx
        clear hx
        have HC := Lib.hid (HG.out 13 1 hok)
        clear hok
        go_wp2_with fail
        refine (HC.out _).mono ?_
        rintro e w4 ⟨rfl, rfl⟩
        go_wp2_with fail
        go_roundw
        case rel => exact ⟨6, by omega, by go_num, ((q0.other _ _ (by first | (simp; done) | (simp; omega) | omega)).alloc _), ((q1.other _ _ (by first | (simp; done) | (simp; omega) | omega)).alloc _), ((q2.set 0 _).alloc _), ((q3.other _ _ (by first | (simp; done) | (simp; omega) | omega)).alloc _), (B1.setCell (by first | (simp; done) | (simp; omega) | omega) _).alloc (by simp; exact B1.size) _⟩
        case measure => simp [intOf]
    · obtain rfl : j = 6 := by omega
      have q1' : RowAt wr (w.heap.size + 1) [.int .i64 (g 0 1), .bool false, .int .i64 (g 2 2), .int .i64 (g 4 8), .int .i64 (g 12 1), .slice none 0 0] := q1
      have q2' : RowAt wr (w.heap.size + 1 + 1) [.int .i64 (g 13 1)] := q2
      have q3' : RowAt wr (w.heap.size + 1 + 1 + 1) [.int .i64 (g 1 1)] := q3
      clear q1 q2 q3
      have hl0 := q0.lt
      have hl1 := q1'.lt
      have hl2 := q2'.lt
      have hl3 := q3'.lt
      obtain ⟨c0, c1, c2, c3, c4, c5⟩ := six_cells q1'
      have f1 := q1'.frozen 1 (by simp)
      have d2 := one_cell q2'
      have d3 := one_cell q3'
      go_wp2_with fail
      rw [show min (g 13 1) 4 = ((min (g 13 1).toNat 4 : Nat) : Int) by omega]
      have r1 := q1'.set 1 (.bool (g 1 1 == 1))
      have B2 : Below w.heap.size w (wr.setCell ⟨w.heap.size + 1, 1, none⟩ (.bool (g 1 1 == 1))) := B1.setCell (by first | (simp; done) | (simp; omega) | omega) _
      have r0 := q0.other ⟨w.heap.size + 1, 1, none⟩ (.bool (g 1 1 == 1)) (by first | (simp; done) | (simp; omega) | omega)
      refine (HN.out _ _ (by omega)).mono ?_
      rintro e w4 ⟨v, rfl, hown, hb4⟩
      clear c0 c1 c2 c3 c4 c5 f1 d2 d3
      rw [World.size_setCell] at hown hb4
      obtain ⟨a, cap, rfl, hent, hnew0⟩ := hown.form
      have hnew : NewE w4 (w.heap.size + 1 + 1 + 1 + 1) a (entsOf g (min (g 13 1).toNat 4)) := NewE.less hnew0 (by omega)
      clear hown hent hnew0
      have B4 := B2.trans (below_le hb4 (by have := B1.size; omega))
      have r1' := r1.below hb4 (by omega)
      have r0' := r0.below hb4 (by omega)
      clear r1 r0 hb4 q0 q1' q2' q3'
      obtain ⟨c0, c1, c2, c3, c4, c5⟩ := six_cells (show RowAt w4 (w.heap.size + 1) [.int .i64 (g 0 1), .bool (g 1 1 == 1), .int .i64 (g 2 2), .int .i64 (g 4 8), .int .i64 (g 12 1), .slice none 0 0] from r1')
      have f5 := r1'.frozen 5 (by simp)
      have hm4 := r1'.lt
      go_wp2_with fail
      have hnew5 := hnew.other ⟨w.heap.size + 1, 5, none⟩ (.slice a (entsOf g (min (g 13 1).toNat 4)).length cap) (by simp; try omega)
      have B5 : Below w.heap.size w (w4.setCell ⟨w.heap.size + 1, 5, none⟩ (.slice a (entsOf g (min (g 13 1).toNat 4)).length cap)) := B4.setCell (by first | (simp; done) | (simp; omega) | omega) _
      have r5 := r1'.set 5 (.slice a (entsOf g (min (g 13 1).toNat 4)).length cap)
      have z5 := r0'.other ⟨w.heap.size + 1, 5, none⟩ (.slice a (entsOf g (min (g 13 1).toNat 4)).length cap) (by first | (simp; done) | (simp; omega) | omega)
      refine (HD.out _ _ _ hnew5).mono ?_
      rintro e w6 ⟨rfl, hb6⟩
      clear c0 c1 c2 c3 c4 c5 f5
      have hnew6 := NewE.below hnew5 hb6 (Nat.le_refl _)
      have B6 := below_chain B5 hb6 B5.size
      have r6 := r5.below hb6 r5.lt
      have z6 := z5.below hb6 z5.lt
      obtain ⟨c0, c1, c2, c3, c4, c5⟩ := six_cells (show RowAt w6 (w.heap.size + 1) [.int .i64 (g 0 1), .bool (g 1 1 == 1), .int .i64 (g 2 2), .int .i64 (g 4 8), .int .i64 (g 12 1), .slice a (entsOf g (min (g 13 1).toNat 4)).length cap] from r6)
      obtain ⟨x0, x1, x2, x3, x4, x5⟩ := six_cells z6
      have y0 := z6.frozen 0 (by simp)
      have y1 := z6.frozen 1 (by simp)
      have y2 := z6.frozen 2 (by simp)
      have y3 := z6.frozen 3 (by simp)
      have y4 := z6.frozen 4 (by simp)
      have y5 := z6.frozen 5 (by simp)
      have hm6 := z6.lt
      have HNW := Lib.hid hnew6
      clear hnew hnew5 hnew6 hb6
      rcases hres.out with ⟨rfl, h1, hP⟩ | ⟨rfl, h1, hP⟩ | ⟨rfl, hP⟩
      · have HP := Lib.hid hP
        clear hP
        go_wp2_with fail
        refine bodyPost_ret (v := .tuple #[iv (g 0 1) (g 1 1 == 1) (g 2 2) (g 4 8) (g 12 1) a (entsOf g (min (g 13 1).toNat 4)).length cap, .int .i64 0]) ?_ rfl ?_
        · have hfin := (((((z6.set 0 (.int .i64 (g 0 1))).set 1 (.bool (g 1 1 == 1))).set 2 (.int .i64 (g 2 2))).set 3 (.int .i64 (g 4 8))).set 4 (.int .i64 (g 12 1))).set 5 (.slice a (entsOf g (min (g 13 1).toNat 4)).length cap)
          obtain ⟨t0, t1, t2, t3, t4, t5⟩ := six_cells (show RowAt _ _ [.int .i64 (g 0 1), .bool (g 1 1 == 1), .int .i64 (g 2 2), .int .i64 (g 4 8), .int .i64 (g 12 1), .slice a (entsOf g (min (g 13 1).toNat 4)).length cap] from hfin)
          simp [results, Try.results23, go_sem, t0, t1, t2, t3, t4, t5]; done
        · rw [HP.out]
          refine ⟨a, cap, ?_, ?_, ?_⟩
          · rw [HX.out]; rfl
          · rw [HX.out]
            show NewE _ _ _ (entsOf g (min (g 13 1).toNat 4))
            refine NewE.less (base := w.heap.size + 1 + 1 + 1 + 1) ?_ (by omega)
            exact (((((HNW.out.other _ _ (by simp; try omega)).other _ _ (by simp; try omega)).other _ _ (by simp; try omega)).other _ _ (by simp; try omega)).other _ _ (by simp; try omega)).other _ _ (by simp; try omega)
          · go_grown
      all_goals
        have HP := Lib.hid hP
        clear hP
        go_wp2_with fail
        refine bodyPost_ret (v := .tuple #[iv 0 false 0 0 0 none 0 0, .int .i64 80]) ?_ rfl ?_
        · have hfin := (((((z6.set 0 (.int .i64 0)).set 1 (.bool false)).set 2 (.int .i64 0)).set 3 (.int .i64 0)).set 4 (.int .i64 0)).set 5 (.slice none 0 0)
          obtain ⟨t0, t1, t2, t3, t4, t5⟩ := six_cells (show RowAt _ _ [.int .i64 0, .bool false, .int .i64 0, .int .i64 0, .int .i64 0, .slice none 0 0] from hfin)
          simp [results, Try.results23, go_sem, t0, t1, t2, t3, t4, t5]; done
        · rw [HP.out]
          refine ⟨rfl, ?_⟩
          go_grown

set_option maxHeartbeats 1000000 in
theorem idec_len (s : ByteArray) (w : World) (hs : s.size ≤ maxLen) (h : s.size ≠ 64) :
    Calls Try.prog 23 #[.string s] w (DecN w) := by
  have hs1 : ((s.size : Int) != 64) = true := by
    have : (s.size : Int) ≠ 64 := by omega
    simpa using this
  have HN : Hid (DecN w = fun e w' => e = .returned (.tuple #[iv 0 false 0 0 0 none 0 0, .int .i64 80]) ∧ Below w.heap.size w w') := rfl
  clear h
  rw [HN.out]
  go_enter Try.func23, Try.ntmps23
  go_wp2_with fail
  refine bodyPost_ret (v := .tuple #[iv 0 false 0 0 0 none 0 0, .int .i64 80]) ?_ rfl ⟨rfl, ?_⟩
  · simp [results, Try.results23, go_sem]; done
  · go_grown

set_option maxHeartbeats 4000000 in
theorem idec_bad (s : ByteArray) (w : World) (hs : s.size = 64) (h8 : getIOk s 4 8 = false) :
    Calls Try.prog 23 #[.string s] w (DecN w) := by
  have hsm : s.size ≤ maxLen := by rw [hs]; decide
  obtain ⟨g, hg⟩ : ∃ g : Int → Int → Int, g = getIV s := ⟨_, rfl⟩
  have HG := Lib.hid (fun (a n : Int) (hok : getIOk s a n = true) W => by have := getint_any s a n W hsm; rw [← hg, hok] at this; exact this : ∀ (a n : Int), getIOk s a n = true → ∀ W, Calls Try.prog 35 #[.string s, .int .i64 a, .int .i64 n] W fun e w' => e = .returned (.tuple #[.int .i64 (g a n), .bool true]) ∧ W = w')
  have HB := Lib.hid (fun W => by have := getint_any s 4 8 W hsm; rw [← hg, h8] at this; exact this : ∀ W, Calls Try.prog 35 #[.string s, .int .i64 4, .int .i64 8] W fun e w' => e = .returned (.tuple #[.int .i64 (g 4 8), .bool false]) ∧ W = w')
  have HF : Hid (∀ (j : Nat) (hj : j < 3), getIOk s ([0, 1, 2, 4, 12, 13][j]'(by simp; omega)) ([1, 1, 2, 8, 1, 1][j]'(by simp; omega)) = true) := by
    intro j hj
    obtain rfl | rfl | rfl : j = 0 ∨ j = 1 ∨ j = 2 := by omega
    · show getIOk s 0 1 = true; exact getIOk_small (by rw [hs]; decide) (by decide)
    · show getIOk s 1 1 = true; exact getIOk_small (by rw [hs]; decide) (by decide)
    · show getIOk s 2 2 = true; exact getIOk_small (by rw [hs]; decide) (by decide)
  have HI := Lib.hid (fun j hj => sixp_index (w.heap.size + 1) (w.heap.size + 1 + 1) (w.heap.size + 1 + 1 + 1) j hj)
  have HN : Hid (DecN w = fun e w' => e = .returned (.tuple #[iv 0 false 0 0 0 none 0 0, .int .i64 80]) ∧ Below w.heap.size w w') := rfl
  rw [HN.out]
  clear hg h8
  have hs1 : ((s.size : Int) != 64) = false := by rw [hs]; rfl
  clear hs
  go_enter Try.func23, Try.ntmps23
  go_wp2_with fail
  go_loopw [28] (fun jj wr => ∃ j : Nat, j ≤ 3 ∧ jj = .int .i64 j ∧ RowAt wr w.heap.size [.int .i64 0, .bool false, .int .i64 0, .int .i64 0, .int .i64 0, .slice none 0 0] ∧ RowAt wr (w.heap.size + 1) (xr g j) ∧ RowAt wr (w.heap.size + 1 + 1) (mr g j) ∧ RowAt wr (w.heap.size + 1 + 1 + 1) (pr g j) ∧ Below w.heap.size w wr) (fun jj _ => 6 - (intOf jj).toNat)
  case atStart =>
    have r0 := rowAt_alloc w #[.int .i64 0, .bool false, .int .i64 0, .int .i64 0, .int .i64 0, .slice none 0 0] 24
    have r1 := rowAt_alloc (w.alloc (.cells #[.int .i64 0, .bool false, .int .i64 0, .int .i64 0, .int .i64 0, .slice none 0 0] 24)) #[.int .i64 0, .bool false, .int .i64 0, .int .i64 0, .int .i64 0, .slice none 0 0] 24
    have r2 := rowAt_alloc ((w.alloc (.cells #[.int .i64 0, .bool false, .int .i64 0, .int .i64 0, .int .i64 0, .slice none 0 0] 24)).alloc (.cells #[.int .i64 0, .bool false, .int .i64 0, .int .i64 0, .int .i64 0, .slice none 0 0] 24)) #[.int .i64 0] 3
    have r3 := rowAt_alloc (((w.alloc (.cells #[.int .i64 0, .bool false, .int .i64 0, .int .i64 0, .int .i64 0, .slice none 0 0] 24)).alloc (.cells #[.int .i64 0, .bool false, .int .i64 0, .int .i64 0, .int .i64 0, .slice none 0 0] 24)).alloc (.cells #[.int .i64 0] 3)) #[.int .i64 0] 3
    simp only [World.size_alloc] at r1 r2 r3
    refine ⟨0, by omega, rfl, ((r0.alloc _).alloc _).alloc _, (r1.alloc _).alloc _, r2.alloc _, r3, ?_⟩
    exact ((((Below.refl _ _).alloc (Nat.le_refl _) _).alloc (by simp) _).alloc (by simp; omega) _).alloc (by simp; omega) _
  case round =>
    obtain ⟨j, hj, rfl, q0, q1, q2, q3, B1⟩ := hrel
    have hx := HI.out j (by omega)
    by_cases hlt : j < 3
    · have hok := HF.out j hlt
      obtain rfl | rfl | rfl : j = 0 ∨ j = 1 ∨ j = 2 := by omega
      · obtain ⟨old, hc⟩ := q1.there 0 (by simp [xr, pr, mr])
        have hfz := q1.frozen 0 (by simp [xr, pr, mr])
        have hlb := q1.lt
        have hx' : ∀ w1, (Instr.index 81 (.agg #[.int .i64 0, .int .i64 1, .pointer (some ⟨w.heap.size + 1, 0, none⟩), .int .i64 1, .int .i64 1, .pointer (some ⟨w.heap.size + 1 + 1 + 1, 0, none⟩), .int .i64 2, .int .i64 2, .pointer (some ⟨w.heap.size + 1, 2, none⟩), .int .i64 4, .int .i64 8, .pointer (some ⟨w.heap.size + 1, 3, none⟩), .int .i64 12, .int .i64 1, .pointer (some ⟨w.heap.size + 1, 4, none⟩), .int .i64 13, .int .i64 1, .pointer (some ⟨w.heap.size + 1 + 1, 0, none⟩)]) (.int .i64 0)).run Try.prog w1 = .ok (.agg #[.int .i64 0, .int .i64 1, .pointer (some ⟨w.heap.size + 1, 0, none⟩)]) w1 := hx
        clear hx
        have HC := Lib.hid (HG.out 0 1 hok)
        clear hok
        go_wp2_with fail
        refine (HC.out _).mono ?_
        rintro e w4 ⟨rfl, rfl⟩
        go_wp2_with fail
        go_roundw
        case rel => exact ⟨1, by omega, by go_num, ((q0.other _ _ (by first | (simp; done) | (simp; omega) | omega)).alloc _), ((q1.set 0 _).alloc _), ((q2.other _ _ (by first | (simp; done) | (simp; omega) | omega)).alloc _), ((q3.other _ _ (by first | (simp; done) | (simp; omega) | omega)).alloc _), (B1.setCell (by first | (simp; done) | (simp; omega) | omega) _).alloc (by simp; exact B1.size) _⟩
        case measure => simp [intOf]
      · obtain ⟨old, hc⟩ := q3.there 0 (by simp [xr, pr, mr])
        have hfz := q3.frozen 0 (by simp [xr, pr, mr])
        have hlb := q3.lt
        have hx' : ∀ w1, (Instr.index 81 (.agg #[.int .i64 0, .int .i64 1, .pointer (some ⟨w.heap.size + 1, 0, none⟩), .int .i64 1, .int .i64 1, .pointer (some ⟨w.heap.size + 1 + 1 + 1, 0, none⟩), .int .i64 2, .int .i64 2, .pointer (some ⟨w.heap.size + 1, 2, none⟩), .int .i64 4, .int .i64 8, .pointer (some ⟨w.heap.size + 1, 3, none⟩), .int .i64 12, .int .i64 1, .pointer (some ⟨w.heap.size + 1, 4, none⟩), .int .i64 13, .int .i64 1, .pointer (some ⟨w.heap.size + 1 + 1, 0, none⟩)]) (.int .i64 1)).run Try.prog w1 = .ok (.agg #[.int .i64 1, .int .i64 1, .pointer (some ⟨w.heap.size + 1 + 1 + 1, 0, none⟩)]) w1 := hx
        clear hx
        have HC := Lib.hid (HG.out 1 1 hok)
        clear hok
        go_wp2_with fail
        refine (HC.out _).mono ?_
        rintro e w4 ⟨rfl, rfl⟩
        go_wp2_with fail
        go_roundw
        case rel => exact ⟨2, by omega, by go_num, ((q0.other _ _ (by first | (simp; done) | (simp; omega) | omega)).alloc _), ((q1.other _ _ (by first | (simp; done) | (simp; omega) | omega)).alloc _), ((q2.other _ _ (by first | (simp; done) | (simp; omega) | omega)).alloc _), ((q3.set 0 _).alloc _), (B1.setCell (by first | (simp; done) | (simp; omega) | omega) _).alloc (by simp; exact B1.size) _⟩
        case measure => simp [intOf]
      · obtain ⟨old, hc⟩ := q1.there 2 (by simp [xr, pr, mr])
        have hfz := q1.frozen 2 (by simp [xr, pr, mr])
        have hlb := q1.lt
        have hx' : ∀ w1, (Instr.index 81 (.agg #[.int .i64 0, .int .i64 1, .pointer (some ⟨w.heap.size + 1, 0, none⟩), .int .i64 1, .int .i64 1, .pointer (some ⟨w.heap.size + 1 + 1 + 1, 0, none⟩), .int .i64 2, .int .i64 2, .pointer (some ⟨w.heap.size + 1, 2, none⟩), .int .i64 4, .int .i64 8, .pointer (some ⟨w.heap.size + 1, 3, none⟩), .int .i64 12, .int .i64 1, .pointer (some ⟨w.heap.size + 1, 4, none⟩), .int .i64 13, .int .i64 1, .pointer (some ⟨w.heap.size + 1 + 1, 0, none⟩)]) (.int .i64 2)).run Try.prog w1 = .ok (.agg #[.int .i64 2, .int .i64 2, .pointer (some ⟨w.heap.size + 1, 2, none⟩)]) w1 := hx
        clear hx
        have HC := Lib.hid (HG.out 2 2 hok)
        clear hok
        go_wp2_with fail
        refine (HC.out _).mono ?_
        rintro e w4 ⟨rfl, rfl⟩
        go_wp2_with fail
        go_roundw
        case rel => exact ⟨3, by omega, by go_num, ((q0.other _ _ (by first | (simp; done) | (simp; omega) | omega)).alloc _), ((q1.set 2 _).alloc _), ((q2.other _ _ (by first | (simp; done) | (simp; omega) | omega)).alloc _), ((q3.other _ _ (by first | (simp; done) | (simp; omega) | omega)).alloc _), (B1.setCell (by first | (simp; done) | (simp; omega) | omega) _).alloc (by simp; exact B1.size) _⟩
        case measure => simp [intOf]
    · obtain rfl : j = 3 := by omega
      have hx' : ∀ w1, (Instr.index 81 (.agg #[.int .i64 0, .int .i64 1, .pointer (some ⟨w.heap.size + 1, 0, none⟩), .int .i64 1, .int .i64 1, .pointer (some ⟨w.heap.size + 1 + 1 + 1, 0, none⟩), .int .i64 2, .int .i64 2, .pointer (some ⟨w.heap.size + 1, 2, none⟩), .int .i64 4, .int .i64 8, .pointer (some ⟨w.heap.size + 1, 3, none⟩), .int .i64 12, .int .i64 1, .pointer (some ⟨w.heap.size + 1, 4, none⟩), .int .i64 13, .int .i64 1, .pointer (some ⟨w.heap.size + 1 + 1, 0, none⟩)]) (.int .i64 3)).run Try.prog w1 = .ok (.agg #[.int .i64 4, .int .i64 8, .pointer (some ⟨w.heap.size + 1, 3, none⟩)]) w1 := hx
      clear hx
      obtain ⟨x0, x1, x2, x3, x4, x5⟩ := six_cells q0
      have y0 := q0.frozen 0 (by simp)
      have y1 := q0.frozen 1 (by simp)
      have y2 := q0.frozen 2 (by simp)
      have y3 := q0.frozen 3 (by simp)
      have y4 := q0.frozen 4 (by simp)
      have y5 := q0.frozen 5 (by simp)
      have hl0 := q0.lt
      go_wp2_with fail
      refine (HB.out _).mono ?_
      rintro e w4 ⟨rfl, rfl⟩
      go_simp
      have q5 := q0.alloc (.cells #[.int .i64 4, .int .i64 8, .pointer (some ⟨w.heap.size + 1, 3, none⟩)] 80)
      have B5 := B1.alloc B1.size (.cells #[.int .i64 4, .int .i64 8, .pointer (some ⟨w.heap.size + 1, 3, none⟩)] 80)
      generalize wr.alloc (.cells #[.int .i64 4, .int .i64 8, .pointer (some ⟨w.heap.size + 1, 3, none⟩)] 80) = W5 at *
      clear hx' x0 x1 x2 x3 x4 x5 y0 y1 y2 y3 y4 y5 hl0 q0 q1 q2 q3 B1
      obtain ⟨x0, x1, x2, x3, x4, x5⟩ := six_cells q5
      have y0 := q5.frozen 0 (by simp)
      have y1 := q5.frozen 1 (by simp)
      have y2 := q5.frozen 2 (by simp)
      have y3 := q5.frozen 3 (by simp)
      have y4 := q5.frozen 4 (by simp)
      have y5 := q5.frozen 5 (by simp)
      have hl0 := q5.lt
      go_wp2_with fail
      refine bodyPost_ret (v := .tuple #[iv 0 false 0 0 0 none 0 0, .int .i64 80]) ?_ rfl ⟨rfl, ?_⟩
      · have hfin := (((((q5.set 0 (.int .i64 0)).set 1 (.bool false)).set 2 (.int .i64 0)).set 3 (.int .i64 0)).set 4 (.int .i64 0)).set 5 (.slice none 0 0)
        obtain ⟨t0, t1, t2, t3, t4, t5⟩ := six_cells (show RowAt _ _ [.int .i64 0, .bool false, .int .i64 0, .int .i64 0, .int .i64 0, .slice none 0 0] from hfin)
        simp [results, Try.results23, go_sem, t0, t1, t2, t3, t4, t5]; done
      · go_grown

theorem idec_no (s : ByteArray) (w : World) (hs : s.size ≤ maxLen) (h : inoDec s = false) :
    Calls Try.prog 23 #[.string s] w (DecN w) := by
  by_cases h1 : s.size = 64
  · by_cases h8 : getIOk s 4 8 = true
    · have hlen : (inoP s).es.length ≤ 4 := by
        show (entsOf _ _).length ≤ 4
        rw [entsOf_length]; omega
      rw [inoDec, Bool.and_eq_false_iff] at h
      by_cases hk : (inoP s).ok = true
      · have h2 : ((tx (inoP s).bytes).toList == s.toList) = false := by
          rcases h with h | h
          · rw [hk] at h; cases h
          · exact h
        exact idec_mid s w h1 h8 _ (tx (inoP s).bytes) 0 (Lib.hid (fun a cap W hE => ienc_yes _ a cap W hE.ents hk)) (Lib.hid (.inr (.inl ⟨rfl, h2, rfl⟩)))
      · exact idec_mid s w h1 h8 _ ⟨#[]⟩ 2 (Lib.hid (fun a cap W hE => ienc_no _ a cap W hE.ents (by omega) (by simpa using hk))) (Lib.hid (.inr (.inr ⟨rfl, rfl⟩)))
    · exact idec_bad s w h1 (by simpa using h8)
  · exact idec_len s w hs h1

theorem idec_yes (s : ByteArray) (w : World) (h : inoDec s = true) :
    Calls Try.prog 23 #[.string s] w (DecP (inoP s) w) := by
  obtain ⟨h1, h2⟩ := inoDec_ok h
  exact idec_mid s w (inoDec_size h) (inoDec_get8 h) _ (tx (inoP s).bytes) 0 (Lib.hid (fun a cap W hE => ienc_yes _ a cap W hE.ents h1)) (Lib.hid (.inl ⟨rfl, bytes_beq.2 h2, rfl⟩))

end Go.Proofs.Ytdeemaafngehoaa
