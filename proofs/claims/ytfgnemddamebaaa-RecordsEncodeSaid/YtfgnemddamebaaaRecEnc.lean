/- The walk of glissadelaw08.RecordsEncode. -/
import Derived.Test.YtfgnemddamebaaaMem4
import Derived.Test.YtfgnemddamebaaaGotRec
import Derived.Test.YtfgnemddamebaaaRecWalks6
import Derived.Deep.RegionHeld3
import Derived.Deep.DeepCutAuto
import Derived.IntWalk
set_option linter.unusedVariables false
set_option linter.unusedSimpArgs false
set_option maxRecDepth 100000
namespace Go.Proofs.Ytfgnemddamebaaa
open Go.RowKit Go.Joins

/-- behind the copy of the homes -/
def EncH (w W : World) (k q t u : Int) (hs : List Int) (ms : List Bool) (ah : Option Addr) (ch : Nat) (am : Option Addr) (cm : Nat) : Prop :=
  ∃ g6 cap6, RowAt W (w.heap.size + 1) [.int .i64 k, .int .u64 q, .int .i64 t, .slice (some ⟨g6, 0, none⟩) hs.length cap6, .slice am ms.length cm, .int .u32 u] ∧ RowAt W w.heap.size [.int .i64 k, .int .u64 q, .int .i64 t, .slice ah hs.length ch, .slice am ms.length cm, .int .u32 u] ∧ RowAt W g6 (hs.map (Value.int .i64) ++ [.int .i64 (-70), .int .i64 (-71)]) ∧ hs.length + 2 ≤ cap6 ∧ w.heap.size + 1 < g6 ∧ Below w.heap.size w W
/-- .. and of the marks -/
def EncM (w W : World) (k q t u : Int) (hs : List Int) (ms : List Bool) (ah : Option Addr) (ch : Nat) (am : Option Addr) (cm : Nat) (gh caph : Nat) : Prop :=
  ∃ g6 cap6, RowAt W (w.heap.size + 1) [.int .i64 k, .int .u64 q, .int .i64 t, .slice (some ⟨gh, 0, none⟩) hs.length caph, .slice (some ⟨g6, 0, none⟩) ms.length cap6, .int .u32 u] ∧ RowAt W w.heap.size [.int .i64 k, .int .u64 q, .int .i64 t, .slice ah hs.length ch, .slice am ms.length cm, .int .u32 u] ∧ RowAt W gh (hs.map (Value.int .i64) ++ [.int .i64 (-70), .int .i64 (-71)]) ∧ RowAt W g6 (ms.map Value.bool ++ [.bool true, .bool false]) ∧ ms.length + 2 ≤ cap6 ∧ w.heap.size + 1 < g6 ∧ Below w.heap.size w W

theorem vals_pre {W : World} {g : Nat} {A B : List Value} (h : RowAt W g (A ++ B)) : ValS W (some ⟨g, 0, none⟩) A := by
  have := h.take A.length
  rw [List.take_left' rfl] at this
  exact .inr ⟨g, 0, rfl, valAt_row this⟩

set_option maxHeartbeats 16000000 in
theorem recEnc_core (w : World) (k q t u : Int) (hs : List Int) (ms : List Bool) (ah : Option Addr) (ch : Nat) (am : Option Addr) (cm : Nat) (hn : hs.length ≤ 1000) (hm : ms.length ≤ 1000) (hH : ValS w ah (hs.map (Value.int .i64))) (hM : ValS w am (ms.map Value.bool)) (hno : ah = none → ch = 0) (mno : am = none → cm = 0) (hcc : hs.length ≤ ch) (mcc : ms.length ≤ cm) (Q : ByteArray) (e0 : Int)
    (HE : Hid (∀ W a c b d, ValS W a (hs.map (Value.int .i64)) → ValS W b (ms.map Value.bool) → Calls Try.prog 11 #[rv k q t a hs.length c b ms.length d u] W fun e w' => e = .returned (.tuple #[.string Q, .int .i64 e0]) ∧ Below W.heap.size W w'))
    (HR : Hid (∀ W a c b d, ValS W a (hs.map (Value.int .i64)) → ValS W b (ms.map Value.bool) → Calls Try.prog 12 #[rv k q t a hs.length c b ms.length d u] W fun e w' => e = .returned (.tuple #[.string Q, .int .i64 e0]) ∧ Below W.heap.size W w'))
    (HS : Hid (∀ W a b c d a' b' c' d', ValS W a (hs.map (Value.int .i64)) → ValS W c (ms.map Value.bool) → ValS W a' (hs.map (Value.int .i64)) → ValS W c' (ms.map Value.bool) → Calls Try.prog 13 #[rv k q t a hs.length b c ms.length d u, rv k q t a' hs.length b' c' ms.length d' u] W fun e w' => e = .returned (.bool true) ∧ Below W.heap.size W w'))
    (HA : Hid (∀ W, Calls Try.prog 14 #[] W fun e w' => e = .returned (.bool true) ∧ Below W.heap.size W w')) :
    Calls Try.prog 3 #[rv k q t ah hs.length ch am ms.length cm u] w fun e w' => e = .returned (.bool true) ∧ Below w.heap.size w w' := by
  have x0 := (rowAt_alloc w #[.int .i64 k, .int .u64 q, .int .i64 t, .slice ah hs.length ch, .slice am ms.length cm, .int .u32 u] 27).alloc (.cells #[.int .i64 k, .int .u64 q, .int .i64 t, .slice ah hs.length ch, .slice am ms.length cm, .int .u32 u] 27)
  have z0 := rowAt_alloc (w.alloc (.cells #[.int .i64 k, .int .u64 q, .int .i64 t, .slice ah hs.length ch, .slice am ms.length cm, .int .u32 u] 27)) #[.int .i64 k, .int .u64 q, .int .i64 t, .slice ah hs.length ch, .slice am ms.length cm, .int .u32 u] 27
  have BB0 : Below w.heap.size w ((w.alloc (.cells #[.int .i64 k, .int .u64 q, .int .i64 t, .slice ah hs.length ch, .slice am ms.length cm, .int .u32 u] 27)).alloc (.cells #[.int .i64 k, .int .u64 q, .int .i64 t, .slice ah hs.length ch, .slice am ms.length cm, .int .u32 u] 27)) := ((Below.refl _ _).alloc (Nat.le_refl _) _).alloc (by simp) _
  rw [World.size_alloc] at z0
  obtain ⟨i0, hi, hz0, hz1, hz2⟩ := info_parts info_int8
  have HI := Lib.hid (And.intro hi (And.intro hz0 (And.intro hz1 hz2)))
  clear hi hz0 hz1 hz2
  obtain ⟨i1, hi, hz0, hz1, hz2⟩ := info_parts info_bool8
  have HJ := Lib.hid (And.intro hi (And.intro hz0 (And.intro hz1 hz2)))
  clear hi hz0 hz1 hz2
  have n1 : ¬ (1000 : Int) < (hs.length : Int) := by omega
  have n2 : ¬ (1000 : Int) < (ms.length : Int) := by omega
  have HH := Lib.hid (fun W (hb : Below w.heap.size w W) => hH.below hb (Nat.le_refl _))
  have HM := Lib.hid (fun W (hb : Below w.heap.size w W) => hM.below hb (Nat.le_refl _))
  have HHN := Lib.hid hH
  have HMN := Lib.hid hM
  have HNO := Lib.hid hno
  have MNO := Lib.hid mno
  clear hH hM hno mno
  go_enter Try.func3, Try.ntmps3
  go_upto_region 4 with fail
  generalize (w.alloc (.cells #[.int .i64 k, .int .u64 q, .int .i64 t, .slice ah hs.length ch, .slice am ms.length cm, .int .u32 u] 27)).alloc (.cells #[.int .i64 k, .int .u64 q, .int .i64 t, .slice ah hs.length ch, .slice am ms.length cm, .int .u32 u] 27) = W0 at *
  go_cut [] (fun wx => EncH w wx k q t u hs ms ah ch am cm)
  case first =>
    clear HE HR HS HA HM HMN MNO
    cases ah with
    | none =>
      obtain rfl := HNO.out rfl
      obtain rfl : hs = [] := List.length_eq_zero_iff.1 (by omega)
      obtain ⟨MC, hMC0⟩ : ∃ MC, MC = madeCells (Value.cells (.int .i64 0)) ((0 + 2) * i0.size) := ⟨_, rfl⟩
      have hMC : MC.size = (0 + 2) * 1 := by
        have := size_madeCells (Value.cells (.int .i64 0)) ((0 + 2) * i0.size)
        rw [← hMC0, HI.out.2.2.1] at this
        exact this
      have hmk : ∀ W : World, (Instr.makeSlice 23 (.int .i64 0) (.int .i64 2)).run Try.prog W = .ok (.slice (some ⟨W.heap.size, 0, none⟩) 0 (0 + 2)) (W.alloc (.cells MC 3)) := by
        intro W
        have := run_makeSlice (w := W) (P := Try.prog) 23 3 i0 _ Try.underlying23 HI.out.1 HI.out.2.1 .i64 .i64 0 2 (by omega) (by omega) (by rw [HI.out.2.2.1]; omega) (by rw [HI.out.2.2.2]; omega) (by omega)
        rw [show (2 : Int).toNat = 0 + 2 from (by omega), ← hMC0] at this
        exact this
      have c5 : W0.cell? ⟨w.heap.size, 3, none⟩ = some (.slice none 0 0) := x0.cell 3 (by simp)
      have lx := x0.lt
      have lz := z0.lt
      have fz5 := z0.frozen 3 (by simp)
      have z5 : W0.cell? ⟨w.heap.size + 1, 3, none⟩ = some (.slice none 0 0) := z0.cell 3 (by simp)
      have hwr : IntKind.i64.wrap 2 = 2 := by decide
      clear hMC0
      go_region_held3 (fun w' => w'.cell? ⟨w.heap.size, 3, none⟩ = some (.slice none 0 0)) (first | go_keep | exact C6a | exact (X6.other ⟨w.heap.size + 1, 3, none⟩ _ (by simp)).cell 3 (by simp)) (first | (refine step_append_none4 rfl (.tmp 25) (.tmp 27) 23 rfl W0.heap.size 3 i0 1 Try.underlying23 HI.out.1 (.slice (some ⟨W0.heap.size, 0, none⟩) 0 (0 + 2)) 0 [] (by simp [Act.eval, Act.put]) (by exact (show World.ownsRow (W0.drew.alloc (.cells MC 3)) W0.heap.size 3 1 (.slice (some ⟨W0.heap.size, 0, none⟩) 0 (0 + 2)) 0 [] from (World.ownsRow_made (base := W0.heap.size) (e := 3) (size := 1) W0.drew MC (0 + 2) (by simp) (by unfold maxLen; omega) hMC))) (by simp [Act.eval, Act.put]) ?_) | (refine step_append_none4 rfl (.tmp 25) (.tmp 27) 23 rfl W0.heap.size 3 i0 1 Try.underlying23 HI.out.1 (.slice (some ⟨W0.heap.size, 0, none⟩) 0 (0 + 2)) 0 [] (by simp [Act.eval, Act.put]) (by exact (show World.ownsRow ((W0.drew.alloc (.cells MC 3)).alloc (.cells #[.int .i64 (-70), .int .i64 (-71)] 3)) W0.heap.size 3 1 (.slice (some ⟨W0.heap.size, 0, none⟩) 0 (0 + 2)) 0 [] from World.ownsRow.alloc (World.ownsRow_made (base := W0.heap.size) (e := 3) (size := 1) W0.drew MC (0 + 2) (by simp) (by unfold maxLen; omega) hMC) (.cells #[.int .i64 (-70), .int .i64 (-71)] 3))) (by simp [Act.eval, Act.put]) ?_) | (refine step_append_none4 rfl (.tmp 25) (.tmp 27) 23 rfl W0.heap.size 3 i0 1 Try.underlying23 HI.out.1 (.slice (some ⟨W0.heap.size + 1, 0, none⟩) 0 (0 + 2)) 0 [] (by simp [Act.eval, Act.put]) (by exact (show World.ownsRow ((W0.drew.alloc (.cells #[.int .i64 (-70), .int .i64 (-71)] 3)).alloc (.cells MC 3)) W0.heap.size 3 1 (.slice (some ⟨W0.heap.size + 1, 0, none⟩) 0 (0 + 2)) 0 [] from (by have := (World.ownsRow_made (base := W0.heap.size) (e := 3) (size := 1) (W0.drew.alloc (.cells #[.int .i64 (-70), .int .i64 (-71)] 3)) MC (0 + 2) (by simp) (by unfold maxLen; omega) hMC); rw [World.size_alloc] at this; exact this))) (by simp [Act.eval, Act.put]) ?_) | (refine step_append_own rfl (.tmp 28) (.tmp 29) 23 rfl W0.heap.size 3 i0 (.int .i64 0) 1 8 Try.underlying23 HI.out.1 HI.out.2.1 HI.out.2.2.1 HI.out.2.2.2 rfl (by decide) (.slice (some ⟨W0.heap.size, 0, none⟩) 0 (0 + 2)) 0 [] (by simp [Act.eval, Act.put]) (by exact (show World.ownsRow ((W0.drew.alloc (.cells MC 3)).alloc (.cells #[.int .i64 (-70), .int .i64 (-71)] 3)) W0.heap.size 3 1 (.slice (some ⟨W0.heap.size, 0, none⟩) 0 (0 + 2)) 0 [] from World.ownsRow.alloc (World.ownsRow_made (base := W0.heap.size) (e := 3) (size := 1) W0.drew MC (0 + 2) (by simp) (by unfold maxLen; omega) hMC) (.cells #[.int .i64 (-70), .int .i64 (-71)] 3))) ⟨W0.heap.size + 1, 0, none⟩ 2 2 [.int .i64 (-70), .int .i64 (-71)] (by simp [Act.eval, Act.put]) rfl (by exact (row_news4 (show RowAt ((W0.drew.alloc (.cells MC 3)).alloc (.cells #[.int .i64 (-70), .int .i64 (-71)] 3)) (W0.heap.size + 1) [.int .i64 (-70), .int .i64 (-71)] from (by have := rowAt_alloc (W0.drew.alloc (.cells MC 3)) #[.int .i64 (-70), .int .i64 (-71)] 3; rw [World.size_alloc] at this; exact this)))) (by intro u hu; simp at hu; first | (rcases hu with rfl | rfl <;> rfl) | (subst hu; rfl)) (by unfold maxLen; omega) (by omega) (by simp; try omega) ?_; intro v6 w6 own6 grow6; obtain ⟨g6, cap6, rfl, hg6, hc6, R6⟩ := own_full4 own6 (by omega); have B6 : Below W0.heap.size W0 w6 := grown_below4 (((Below.refl W0.heap.size W0).drew.alloc (Nat.le_refl _) (.cells MC 3)).alloc (by simp) (.cells #[.int .i64 (-70), .int .i64 (-71)] 3)) grow6 (by intro kk hkk; have := Option.some.inj hkk; simp at this; omega) (by simp; try omega); have X6 := x0.below B6 x0.lt; have Z6 := z0.below B6 z0.lt; have C6a : w6.cell? ⟨w.heap.size, 3, none⟩ = some (.slice none 0 0) := X6.cell 3 (by simp); have L6a := X6.lt; have L6b := Z6.lt; have F6 := Z6.frozen 3 (by simp); have C6e : w6.cell? ⟨w.heap.size + 1, 3, none⟩ = some (.slice none 0 0) := Z6.cell 3 (by simp); have hq1 : (0 : Int) ≤ (cap6 : Int) := (by omega)) | (refine step_append_own rfl (.tmp 28) (.tmp 29) 23 rfl W0.heap.size 3 i0 (.int .i64 0) 1 8 Try.underlying23 HI.out.1 HI.out.2.1 HI.out.2.2.1 HI.out.2.2.2 rfl (by decide) (.slice (some ⟨W0.heap.size + 1, 0, none⟩) 0 (0 + 2)) 0 [] (by simp [Act.eval, Act.put]) (by exact (show World.ownsRow ((W0.drew.alloc (.cells #[.int .i64 (-70), .int .i64 (-71)] 3)).alloc (.cells MC 3)) W0.heap.size 3 1 (.slice (some ⟨W0.heap.size + 1, 0, none⟩) 0 (0 + 2)) 0 [] from (by have := (World.ownsRow_made (base := W0.heap.size) (e := 3) (size := 1) (W0.drew.alloc (.cells #[.int .i64 (-70), .int .i64 (-71)] 3)) MC (0 + 2) (by simp) (by unfold maxLen; omega) hMC); rw [World.size_alloc] at this; exact this))) ⟨W0.heap.size, 0, none⟩ 2 2 [.int .i64 (-70), .int .i64 (-71)] (by simp [Act.eval, Act.put]) rfl (by exact (row_news4 (show RowAt ((W0.drew.alloc (.cells #[.int .i64 (-70), .int .i64 (-71)] 3)).alloc (.cells MC 3)) W0.heap.size [.int .i64 (-70), .int .i64 (-71)] from (rowAt_alloc W0.drew #[.int .i64 (-70), .int .i64 (-71)] 3).alloc (.cells MC 3)))) (by intro u hu; simp at hu; first | (rcases hu with rfl | rfl <;> rfl) | (subst hu; rfl)) (by unfold maxLen; omega) (by omega) (by simp; try omega) ?_; intro v6 w6 own6 grow6; obtain ⟨g6, cap6, rfl, hg6, hc6, R6⟩ := own_full4 own6 (by omega); have B6 : Below W0.heap.size W0 w6 := grown_below4 (((Below.refl W0.heap.size W0).drew.alloc (Nat.le_refl _) (.cells #[.int .i64 (-70), .int .i64 (-71)] 3)).alloc (by simp) (.cells MC 3)) grow6 (by intro kk hkk; have := Option.some.inj hkk; simp at this; omega) (by simp; try omega); have X6 := x0.below B6 x0.lt; have Z6 := z0.below B6 z0.lt; have C6a : w6.cell? ⟨w.heap.size, 3, none⟩ = some (.slice none 0 0) := X6.cell 3 (by simp); have L6a := X6.lt; have L6b := Z6.lt; have F6 := Z6.frozen 3 (by simp); have C6e : w6.cell? ⟨w.heap.size + 1, 3, none⟩ = some (.slice none 0 0) := Z6.cell 3 (by simp); have hq1 : (0 : Int) ≤ (cap6 : Int) := (by omega)) | fail)
      all_goals
        have R6' : RowAt w6 g6 ([] ++ [.int .i64 (-70), .int .i64 (-71)]) := R6
        have BB7 : Below w.heap.size w (w6.setCell ⟨w.heap.size + 1, 3, none⟩ (.slice (some ⟨g6, 0, none⟩) 0 cap6)) := (BB0.trans (below_le B6 BB0.size)).setCell (by simp) _
        have X7 := X6.other ⟨w.heap.size + 1, 3, none⟩ (.slice (some ⟨g6, 0, none⟩) 0 cap6) (by simp)
        have Z7 := Z6.set 3 (.slice (some ⟨g6, 0, none⟩) 0 cap6)
        have R7 := R6'.other ⟨w.heap.size + 1, 3, none⟩ (.slice (some ⟨g6, 0, none⟩) 0 cap6) (by simp; omega)
        have hg7 : w.heap.size + 1 < g6 := by omega
        have hcap : 0 + 2 ≤ cap6 := by omega
        have REL := Lib.hid (show EncH w _ k q t u [] ms none 0 am cm from ⟨g6, cap6, Z7, X7, R7, hcap, hg7, BB7⟩)
        clear own6 grow6 X6 Z6 B6 F6 C6a C6e L6a L6b R6 R6' hmk hMC hc6 hg6 R7 Z7 X7 BB7
        go_wp2_with fail
        go_meet
        case rel => exact REL.out
    | some ad =>
      have hE0 := HH.out _ BB0
      obtain ⟨MC, hMC0⟩ : ∃ MC, MC = madeCells (Value.cells (.int .i64 0)) ((hs.length + 2) * i0.size) := ⟨_, rfl⟩
      have hMC : MC.size = (hs.length + 2) * 1 := by
        have := size_madeCells (Value.cells (.int .i64 0)) ((hs.length + 2) * i0.size)
        rw [← hMC0, HI.out.2.2.1] at this
        exact this
      have hmk : ∀ W : World, (Instr.makeSlice 23 (.int .i64 0) (.int .i64 ((hs.length : Int) + 2))).run Try.prog W = .ok (.slice (some ⟨W.heap.size, 0, none⟩) 0 (hs.length + 2)) (W.alloc (.cells MC 3)) := by
        intro W
        have := run_makeSlice (w := W) (P := Try.prog) 23 3 i0 _ Try.underlying23 HI.out.1 HI.out.2.1 .i64 .i64 0 ((hs.length : Int) + 2) (by omega) (by omega) (by rw [HI.out.2.2.1]; omega) (by rw [HI.out.2.2.2]; omega) (by omega)
        rw [show (((hs.length : Int) + 2) : Int).toNat = hs.length + 2 from (by omega), ← hMC0] at this
        exact this
      have c5 : W0.cell? ⟨w.heap.size, 3, none⟩ = some (.slice (some ad) hs.length ch) := x0.cell 3 (by simp)
      have lx := x0.lt
      have lz := z0.lt
      have fz5 := z0.frozen 3 (by simp)
      have z5 : W0.cell? ⟨w.heap.size + 1, 3, none⟩ = some (.slice (some ad) hs.length ch) := z0.cell 3 (by simp)
      have hwr : IntKind.i64.wrap ((hs.length : Int) + 2) = (hs.length : Int) + 2 := IntWalk.i64_in _ (by omega)
      clear hMC0
      go_region_held3 (fun w' => w'.cell? ⟨w.heap.size, 3, none⟩ = some (.slice (some ad) hs.length ch)) (first | go_keep | exact C5a | exact C6a | exact (X6.other ⟨w.heap.size + 1, 3, none⟩ _ (by simp)).cell 3 (by simp)) (first | (refine step_append_own rfl (.tmp 25) (.tmp 27) 23 rfl W0.heap.size 3 i0 (.int .i64 0) 1 8 Try.underlying23 HI.out.1 HI.out.2.1 HI.out.2.2.1 HI.out.2.2.2 rfl (by decide) (.slice (some ⟨W0.heap.size, 0, none⟩) 0 (hs.length + 2)) 0 [] (by simp [Act.eval, Act.put]) (by exact (show World.ownsRow (W0.drew.alloc (.cells MC 3)) W0.heap.size 3 1 (.slice (some ⟨W0.heap.size, 0, none⟩) 0 (hs.length + 2)) 0 [] from (World.ownsRow_made (base := W0.heap.size) (e := 3) (size := 1) W0.drew MC (hs.length + 2) (by simp) (by unfold maxLen; omega) hMC))) ad hs.length ch (hs.map (Value.int .i64)) (by simp [Act.eval, Act.put]) (by simp) (by exact (vals_news (ValS.below hE0 (show Below W0.heap.size W0 (W0.drew.alloc (.cells MC 3)) from (by go_grown)) (Nat.le_refl _)))) (by intro u hu; simp only [List.mem_map] at hu; obtain ⟨z, _, rfl⟩ := hu; rfl) (by unfold maxLen; omega) (by omega) (by simp; try omega) ?_; intro v5 w5 own5 grow5; have B5 : Below W0.heap.size W0 w5 := grown_below4 ((Below.refl W0.heap.size W0).drew.alloc (Nat.le_refl _) (.cells MC 3)) grow5 (by intro kk hkk; have := Option.some.inj hkk; simp at this; omega) (by simp; try omega); have X5 := x0.below B5 x0.lt; have Z5 := z0.below B5 z0.lt; have C5a : w5.cell? ⟨w.heap.size, 3, none⟩ = some (.slice (some ad) hs.length ch) := X5.cell 3 (by simp); have L5a := X5.lt; have L5b := Z5.lt; have F5 := Z5.frozen 3 (by simp); have C5e : w5.cell? ⟨w.heap.size + 1, 3, none⟩ = some (.slice (some ad) hs.length ch) := Z5.cell 3 (by simp)) | (refine step_append_own rfl (.tmp 25) (.tmp 27) 23 rfl W0.heap.size 3 i0 (.int .i64 0) 1 8 Try.underlying23 HI.out.1 HI.out.2.1 HI.out.2.2.1 HI.out.2.2.2 rfl (by decide) (.slice (some ⟨W0.heap.size, 0, none⟩) 0 (hs.length + 2)) 0 [] (by simp [Act.eval, Act.put]) (by exact (show World.ownsRow ((W0.drew.alloc (.cells MC 3)).alloc (.cells #[.int .i64 (-70), .int .i64 (-71)] 3)) W0.heap.size 3 1 (.slice (some ⟨W0.heap.size, 0, none⟩) 0 (hs.length + 2)) 0 [] from World.ownsRow.alloc (World.ownsRow_made (base := W0.heap.size) (e := 3) (size := 1) W0.drew MC (hs.length + 2) (by simp) (by unfold maxLen; omega) hMC) (.cells #[.int .i64 (-70), .int .i64 (-71)] 3))) ad hs.length ch (hs.map (Value.int .i64)) (by simp [Act.eval, Act.put]) (by simp) (by exact (vals_news (ValS.below hE0 (show Below W0.heap.size W0 ((W0.drew.alloc (.cells MC 3)).alloc (.cells #[.int .i64 (-70), .int .i64 (-71)] 3)) from (by go_grown)) (Nat.le_refl _)))) (by intro u hu; simp only [List.mem_map] at hu; obtain ⟨z, _, rfl⟩ := hu; rfl) (by unfold maxLen; omega) (by omega) (by simp; try omega) ?_; intro v5 w5 own5 grow5; have B5 : Below W0.heap.size W0 w5 := grown_below4 (((Below.refl W0.heap.size W0).drew.alloc (Nat.le_refl _) (.cells MC 3)).alloc (by simp) (.cells #[.int .i64 (-70), .int .i64 (-71)] 3)) grow5 (by intro kk hkk; have := Option.some.inj hkk; simp at this; omega) (by simp; try omega); have X5 := x0.below B5 x0.lt; have Z5 := z0.below B5 z0.lt; have C5a : w5.cell? ⟨w.heap.size, 3, none⟩ = some (.slice (some ad) hs.length ch) := X5.cell 3 (by simp); have L5a := X5.lt; have L5b := Z5.lt; have F5 := Z5.frozen 3 (by simp); have C5e : w5.cell? ⟨w.heap.size + 1, 3, none⟩ = some (.slice (some ad) hs.length ch) := Z5.cell 3 (by simp); have yb : RowAt ((W0.drew.alloc (.cells MC 3)).alloc (.cells #[.int .i64 (-70), .int .i64 (-71)] 3)) (W0.heap.size + 1) [.int .i64 (-70), .int .i64 (-71)] := (by have := rowAt_alloc (W0.drew.alloc (.cells MC 3)) #[.int .i64 (-70), .int .i64 (-71)] 3; rw [World.size_alloc] at this; exact this); have YB := RowAt.grown (w := ((W0.drew.alloc (.cells MC 3)).alloc (.cells #[.int .i64 (-70), .int .i64 (-71)] 3))) yb grow5 (by simp [Value.ownBlock])) | (refine step_append_own rfl (.tmp 25) (.tmp 27) 23 rfl W0.heap.size 3 i0 (.int .i64 0) 1 8 Try.underlying23 HI.out.1 HI.out.2.1 HI.out.2.2.1 HI.out.2.2.2 rfl (by decide) (.slice (some ⟨W0.heap.size + 1, 0, none⟩) 0 (hs.length + 2)) 0 [] (by simp [Act.eval, Act.put]) (by exact (show World.ownsRow ((W0.drew.alloc (.cells #[.int .i64 (-70), .int .i64 (-71)] 3)).alloc (.cells MC 3)) W0.heap.size 3 1 (.slice (some ⟨W0.heap.size + 1, 0, none⟩) 0 (hs.length + 2)) 0 [] from (by have := (World.ownsRow_made (base := W0.heap.size) (e := 3) (size := 1) (W0.drew.alloc (.cells #[.int .i64 (-70), .int .i64 (-71)] 3)) MC (hs.length + 2) (by simp) (by unfold maxLen; omega) hMC); rw [World.size_alloc] at this; exact this))) ad hs.length ch (hs.map (Value.int .i64)) (by simp [Act.eval, Act.put]) (by simp) (by exact (vals_news (ValS.below hE0 (show Below W0.heap.size W0 ((W0.drew.alloc (.cells #[.int .i64 (-70), .int .i64 (-71)] 3)).alloc (.cells MC 3)) from (by go_grown)) (Nat.le_refl _)))) (by intro u hu; simp only [List.mem_map] at hu; obtain ⟨z, _, rfl⟩ := hu; rfl) (by unfold maxLen; omega) (by omega) (by simp; try omega) ?_; intro v5 w5 own5 grow5; have B5 : Below W0.heap.size W0 w5 := grown_below4 (((Below.refl W0.heap.size W0).drew.alloc (Nat.le_refl _) (.cells #[.int .i64 (-70), .int .i64 (-71)] 3)).alloc (by simp) (.cells MC 3)) grow5 (by intro kk hkk; have := Option.some.inj hkk; simp at this; omega) (by simp; try omega); have X5 := x0.below B5 x0.lt; have Z5 := z0.below B5 z0.lt; have C5a : w5.cell? ⟨w.heap.size, 3, none⟩ = some (.slice (some ad) hs.length ch) := X5.cell 3 (by simp); have L5a := X5.lt; have L5b := Z5.lt; have F5 := Z5.frozen 3 (by simp); have C5e : w5.cell? ⟨w.heap.size + 1, 3, none⟩ = some (.slice (some ad) hs.length ch) := Z5.cell 3 (by simp); have yb : RowAt ((W0.drew.alloc (.cells #[.int .i64 (-70), .int .i64 (-71)] 3)).alloc (.cells MC 3)) W0.heap.size [.int .i64 (-70), .int .i64 (-71)] := (rowAt_alloc W0.drew #[.int .i64 (-70), .int .i64 (-71)] 3).alloc (.cells MC 3); have YB := RowAt.grown (w := ((W0.drew.alloc (.cells #[.int .i64 (-70), .int .i64 (-71)] 3)).alloc (.cells MC 3))) yb grow5 (by simp [Value.ownBlock])) | (refine step_append_own rfl (.tmp 28) (.tmp 29) 23 rfl W0.heap.size 3 i0 (.int .i64 0) 1 8 Try.underlying23 HI.out.1 HI.out.2.1 HI.out.2.2.1 HI.out.2.2.2 rfl (by decide) v5 (0 + hs.length) _ (by simp [Act.eval, Act.put]) (by exact (own5.alloc (.cells #[.int .i64 (-70), .int .i64 (-71)] 3))) ⟨w5.heap.size, 0, none⟩ 2 2 [.int .i64 (-70), .int .i64 (-71)] (by simp [Act.eval, Act.put]) rfl (by exact (row_news4 (rowAt_alloc w5 _ _))) (by intro u hu; simp at hu; first | (rcases hu with rfl | rfl <;> rfl) | (subst hu; rfl)) (by unfold maxLen; omega) (by omega) (by have := B5.size; simp; try omega) ?_; intro v6 w6 own6 grow6; obtain ⟨g6, cap6, rfl, hg6, hc6, R6⟩ := own_full4 own6 (by omega); have B6 : Below W0.heap.size W0 w6 := grown_below4 (B5.alloc B5.size (.cells #[.int .i64 (-70), .int .i64 (-71)] 3)) grow6 (fun kk hkk => (own5.lt kk hkk).1) (by have := B5.size; simp; try omega); have X6 := x0.below B6 x0.lt; have Z6 := z0.below B6 z0.lt; have C6a : w6.cell? ⟨w.heap.size, 3, none⟩ = some (.slice (some ad) hs.length ch) := X6.cell 3 (by simp); have L6a := X6.lt; have L6b := Z6.lt; have F6 := Z6.frozen 3 (by simp); have C6e : w6.cell? ⟨w.heap.size + 1, 3, none⟩ = some (.slice (some ad) hs.length ch) := Z6.cell 3 (by simp); have hq1 : ((hs.length : Nat) : Int) ≤ (cap6 : Int) := (by omega)) | (refine step_append_own rfl (.tmp 28) (.tmp 29) 23 rfl W0.heap.size 3 i0 (.int .i64 0) 1 8 Try.underlying23 HI.out.1 HI.out.2.1 HI.out.2.2.1 HI.out.2.2.2 rfl (by decide) v5 (0 + hs.length) _ (by simp [Act.eval, Act.put]) (by exact own5) ⟨W0.heap.size + 1, 0, none⟩ 2 2 [.int .i64 (-70), .int .i64 (-71)] (by simp [Act.eval, Act.put]) rfl (by exact (row_news4 YB)) (by intro u hu; simp at hu; first | (rcases hu with rfl | rfl <;> rfl) | (subst hu; rfl)) (by unfold maxLen; omega) (by omega) (by have := B5.size; simp; try omega) ?_; intro v6 w6 own6 grow6; obtain ⟨g6, cap6, rfl, hg6, hc6, R6⟩ := own_full4 own6 (by omega); have B6 : Below W0.heap.size W0 w6 := grown_below4 B5 grow6 (fun kk hkk => (own5.lt kk hkk).1) (by have := B5.size; simp; try omega); have X6 := x0.below B6 x0.lt; have Z6 := z0.below B6 z0.lt; have C6a : w6.cell? ⟨w.heap.size, 3, none⟩ = some (.slice (some ad) hs.length ch) := X6.cell 3 (by simp); have L6a := X6.lt; have L6b := Z6.lt; have F6 := Z6.frozen 3 (by simp); have C6e : w6.cell? ⟨w.heap.size + 1, 3, none⟩ = some (.slice (some ad) hs.length ch) := Z6.cell 3 (by simp); have hq1 : ((hs.length : Nat) : Int) ≤ (cap6 : Int) := (by omega)) | (refine step_append_own rfl (.tmp 28) (.tmp 29) 23 rfl W0.heap.size 3 i0 (.int .i64 0) 1 8 Try.underlying23 HI.out.1 HI.out.2.1 HI.out.2.2.1 HI.out.2.2.2 rfl (by decide) v5 (0 + hs.length) _ (by simp [Act.eval, Act.put]) (by exact own5) ⟨W0.heap.size, 0, none⟩ 2 2 [.int .i64 (-70), .int .i64 (-71)] (by simp [Act.eval, Act.put]) rfl (by exact (row_news4 YB)) (by intro u hu; simp at hu; first | (rcases hu with rfl | rfl <;> rfl) | (subst hu; rfl)) (by unfold maxLen; omega) (by omega) (by have := B5.size; simp; try omega) ?_; intro v6 w6 own6 grow6; obtain ⟨g6, cap6, rfl, hg6, hc6, R6⟩ := own_full4 own6 (by omega); have B6 : Below W0.heap.size W0 w6 := grown_below4 B5 grow6 (fun kk hkk => (own5.lt kk hkk).1) (by have := B5.size; simp; try omega); have X6 := x0.below B6 x0.lt; have Z6 := z0.below B6 z0.lt; have C6a : w6.cell? ⟨w.heap.size, 3, none⟩ = some (.slice (some ad) hs.length ch) := X6.cell 3 (by simp); have L6a := X6.lt; have L6b := Z6.lt; have F6 := Z6.frozen 3 (by simp); have C6e : w6.cell? ⟨w.heap.size + 1, 3, none⟩ = some (.slice (some ad) hs.length ch) := Z6.cell 3 (by simp); have hq1 : ((hs.length : Nat) : Int) ≤ (cap6 : Int) := (by omega)) | fail)
      all_goals
        have R6' : RowAt w6 g6 (hs.map (Value.int .i64) ++ [.int .i64 (-70), .int .i64 (-71)]) := R6
        have BB7 : Below w.heap.size w (w6.setCell ⟨w.heap.size + 1, 3, none⟩ (.slice (some ⟨g6, 0, none⟩) hs.length cap6)) := (BB0.trans (below_le B6 BB0.size)).setCell (by simp) _
        have X7 := X6.other ⟨w.heap.size + 1, 3, none⟩ (.slice (some ⟨g6, 0, none⟩) hs.length cap6) (by simp)
        have Z7 := Z6.set 3 (.slice (some ⟨g6, 0, none⟩) hs.length cap6)
        have R7 := R6'.other ⟨w.heap.size + 1, 3, none⟩ (.slice (some ⟨g6, 0, none⟩) hs.length cap6) (by simp; omega)
        have hg7 : w.heap.size + 1 < g6 := by omega
        have hcap : hs.length + 2 ≤ cap6 := by omega
        have REL := Lib.hid (show EncH w _ k q t u hs ms (some ad) ch am cm from ⟨g6, cap6, Z7, X7, R7, hcap, hg7, BB7⟩)
        clear own6 grow6 X6 Z6 B6 F6 C6a C6e L6a L6b R6 R6' hmk hMC hc6 hg6 R7 Z7 X7 BB7
        go_wp2_with fail
        go_meet
        case rel => exact REL.out
  case rest =>
    obtain ⟨gh, caph, z0, x0, gr0, hcap1, hg1, BB0⟩ := hcut
    have HC1 := Lib.hid hcap1
    clear hcap1
    go_upto_region 5 with fail
    generalize hW : wc = W0 at *
    clear hW
    go_cut [] (fun wx => EncM w wx k q t u hs ms ah ch am cm gh caph)
    case first =>
      clear HE HR HS HA HH HHN HNO
      cases am with
      | none =>
        obtain rfl := MNO.out rfl
        obtain rfl : ms = [] := List.length_eq_zero_iff.1 (by omega)
        obtain ⟨MC, hMC0⟩ : ∃ MC, MC = madeCells (Value.cells (.bool false)) ((0 + 2) * i1.size) := ⟨_, rfl⟩
        have hMC : MC.size = (0 + 2) * 1 := by
          have := size_madeCells (Value.cells (.bool false)) ((0 + 2) * i1.size)
          rw [← hMC0, HJ.out.2.2.1] at this
          exact this
        have hmk : ∀ W : World, (Instr.makeSlice 24 (.int .i64 0) (.int .i64 2)).run Try.prog W = .ok (.slice (some ⟨W.heap.size, 0, none⟩) 0 (0 + 2)) (W.alloc (.cells MC 4)) := by
          intro W
          have := run_makeSlice (w := W) (P := Try.prog) 24 4 i1 _ Try.underlying24 HJ.out.1 HJ.out.2.1 .i64 .i64 0 2 (by omega) (by omega) (by rw [HJ.out.2.2.1]; omega) (by rw [HJ.out.2.2.2]; omega) (by omega)
          rw [show (2 : Int).toNat = 0 + 2 from (by omega), ← hMC0] at this
          exact this
        have c5 : W0.cell? ⟨w.heap.size, 4, none⟩ = some (.slice none 0 0) := x0.cell 4 (by simp)
        have lx := x0.lt
        have lz := z0.lt
        have fz5 := z0.frozen 4 (by simp)
        have z5 : W0.cell? ⟨w.heap.size + 1, 4, none⟩ = some (.slice none 0 0) := z0.cell 4 (by simp)
        have hwr : IntKind.i64.wrap 2 = 2 := by decide
        clear hMC0
        go_region_held3 (fun w' => w'.cell? ⟨w.heap.size, 4, none⟩ = some (.slice none 0 0)) (first | go_keep | exact C6a | exact (X6.other ⟨w.heap.size + 1, 4, none⟩ _ (by simp)).cell 4 (by simp)) (first | (refine step_append_none4 rfl (.tmp 40) (.tmp 42) 24 rfl W0.heap.size 4 i1 1 Try.underlying24 HJ.out.1 (.slice (some ⟨W0.heap.size, 0, none⟩) 0 (0 + 2)) 0 [] (by simp [Act.eval, Act.put]) (by exact (show World.ownsRow (W0.drew.alloc (.cells MC 4)) W0.heap.size 4 1 (.slice (some ⟨W0.heap.size, 0, none⟩) 0 (0 + 2)) 0 [] from (World.ownsRow_made (base := W0.heap.size) (e := 4) (size := 1) W0.drew MC (0 + 2) (by simp) (by unfold maxLen; omega) hMC))) (by simp [Act.eval, Act.put]) ?_) | (refine step_append_none4 rfl (.tmp 40) (.tmp 42) 24 rfl W0.heap.size 4 i1 1 Try.underlying24 HJ.out.1 (.slice (some ⟨W0.heap.size, 0, none⟩) 0 (0 + 2)) 0 [] (by simp [Act.eval, Act.put]) (by exact (show World.ownsRow ((W0.drew.alloc (.cells MC 4)).alloc (.cells #[.bool true, .bool false] 4)) W0.heap.size 4 1 (.slice (some ⟨W0.heap.size, 0, none⟩) 0 (0 + 2)) 0 [] from World.ownsRow.alloc (World.ownsRow_made (base := W0.heap.size) (e := 4) (size := 1) W0.drew MC (0 + 2) (by simp) (by unfold maxLen; omega) hMC) (.cells #[.bool true, .bool false] 4))) (by simp [Act.eval, Act.put]) ?_) | (refine step_append_none4 rfl (.tmp 40) (.tmp 42) 24 rfl W0.heap.size 4 i1 1 Try.underlying24 HJ.out.1 (.slice (some ⟨W0.heap.size + 1, 0, none⟩) 0 (0 + 2)) 0 [] (by simp [Act.eval, Act.put]) (by exact (show World.ownsRow ((W0.drew.alloc (.cells #[.bool true, .bool false] 4)).alloc (.cells MC 4)) W0.heap.size 4 1 (.slice (some ⟨W0.heap.size + 1, 0, none⟩) 0 (0 + 2)) 0 [] from (by have := (World.ownsRow_made (base := W0.heap.size) (e := 4) (size := 1) (W0.drew.alloc (.cells #[.bool true, .bool false] 4)) MC (0 + 2) (by simp) (by unfold maxLen; omega) hMC); rw [World.size_alloc] at this; exact this))) (by simp [Act.eval, Act.put]) ?_) | (refine step_append_own rfl (.tmp 43) (.tmp 44) 24 rfl W0.heap.size 4 i1 (.bool false) 1 1 Try.underlying24 HJ.out.1 HJ.out.2.1 HJ.out.2.2.1 HJ.out.2.2.2 rfl (by decide) (.slice (some ⟨W0.heap.size, 0, none⟩) 0 (0 + 2)) 0 [] (by simp [Act.eval, Act.put]) (by exact (show World.ownsRow ((W0.drew.alloc (.cells MC 4)).alloc (.cells #[.bool true, .bool false] 4)) W0.heap.size 4 1 (.slice (some ⟨W0.heap.size, 0, none⟩) 0 (0 + 2)) 0 [] from World.ownsRow.alloc (World.ownsRow_made (base := W0.heap.size) (e := 4) (size := 1) W0.drew MC (0 + 2) (by simp) (by unfold maxLen; omega) hMC) (.cells #[.bool true, .bool false] 4))) ⟨W0.heap.size + 1, 0, none⟩ 2 2 [.bool true, .bool false] (by simp [Act.eval, Act.put]) rfl (by exact (row_news4 (show RowAt ((W0.drew.alloc (.cells MC 4)).alloc (.cells #[.bool true, .bool false] 4)) (W0.heap.size + 1) [.bool true, .bool false] from (by have := rowAt_alloc (W0.drew.alloc (.cells MC 4)) #[.bool true, .bool false] 4; rw [World.size_alloc] at this; exact this)))) (by intro u hu; simp at hu; first | (rcases hu with rfl | rfl <;> rfl) | (subst hu; rfl)) (by unfold maxLen; omega) (by omega) (by simp; try omega) ?_; intro v6 w6 own6 grow6; obtain ⟨g6, cap6, rfl, hg6, hc6, R6⟩ := own_full4 own6 (by omega); have B6 : Below W0.heap.size W0 w6 := grown_below4 (((Below.refl W0.heap.size W0).drew.alloc (Nat.le_refl _) (.cells MC 4)).alloc (by simp) (.cells #[.bool true, .bool false] 4)) grow6 (by intro kk hkk; have := Option.some.inj hkk; simp at this; omega) (by simp; try omega); have X6 := x0.below B6 x0.lt; have Z6 := z0.below B6 z0.lt; have G6 := gr0.below B6 gr0.lt; have C6a : w6.cell? ⟨w.heap.size, 4, none⟩ = some (.slice none 0 0) := X6.cell 4 (by simp); have L6a := X6.lt; have L6b := Z6.lt; have F6 := Z6.frozen 4 (by simp); have C6e : w6.cell? ⟨w.heap.size + 1, 4, none⟩ = some (.slice none 0 0) := Z6.cell 4 (by simp); have hq1 : (0 : Int) ≤ (cap6 : Int) := (by omega)) | (refine step_append_own rfl (.tmp 43) (.tmp 44) 24 rfl W0.heap.size 4 i1 (.bool false) 1 1 Try.underlying24 HJ.out.1 HJ.out.2.1 HJ.out.2.2.1 HJ.out.2.2.2 rfl (by decide) (.slice (some ⟨W0.heap.size + 1, 0, none⟩) 0 (0 + 2)) 0 [] (by simp [Act.eval, Act.put]) (by exact (show World.ownsRow ((W0.drew.alloc (.cells #[.bool true, .bool false] 4)).alloc (.cells MC 4)) W0.heap.size 4 1 (.slice (some ⟨W0.heap.size + 1, 0, none⟩) 0 (0 + 2)) 0 [] from (by have := (World.ownsRow_made (base := W0.heap.size) (e := 4) (size := 1) (W0.drew.alloc (.cells #[.bool true, .bool false] 4)) MC (0 + 2) (by simp) (by unfold maxLen; omega) hMC); rw [World.size_alloc] at this; exact this))) ⟨W0.heap.size, 0, none⟩ 2 2 [.bool true, .bool false] (by simp [Act.eval, Act.put]) rfl (by exact (row_news4 (show RowAt ((W0.drew.alloc (.cells #[.bool true, .bool false] 4)).alloc (.cells MC 4)) W0.heap.size [.bool true, .bool false] from (rowAt_alloc W0.drew #[.bool true, .bool false] 4).alloc (.cells MC 4)))) (by intro u hu; simp at hu; first | (rcases hu with rfl | rfl <;> rfl) | (subst hu; rfl)) (by unfold maxLen; omega) (by omega) (by simp; try omega) ?_; intro v6 w6 own6 grow6; obtain ⟨g6, cap6, rfl, hg6, hc6, R6⟩ := own_full4 own6 (by omega); have B6 : Below W0.heap.size W0 w6 := grown_below4 (((Below.refl W0.heap.size W0).drew.alloc (Nat.le_refl _) (.cells #[.bool true, .bool false] 4)).alloc (by simp) (.cells MC 4)) grow6 (by intro kk hkk; have := Option.some.inj hkk; simp at this; omega) (by simp; try omega); have X6 := x0.below B6 x0.lt; have Z6 := z0.below B6 z0.lt; have G6 := gr0.below B6 gr0.lt; have C6a : w6.cell? ⟨w.heap.size, 4, none⟩ = some (.slice none 0 0) := X6.cell 4 (by simp); have L6a := X6.lt; have L6b := Z6.lt; have F6 := Z6.frozen 4 (by simp); have C6e : w6.cell? ⟨w.heap.size + 1, 4, none⟩ = some (.slice none 0 0) := Z6.cell 4 (by simp); have hq1 : (0 : Int) ≤ (cap6 : Int) := (by omega)) | fail)
        all_goals
          have R6' : RowAt w6 g6 ([] ++ [.bool true, .bool false]) := R6
          have BB7 : Below w.heap.size w (w6.setCell ⟨w.heap.size + 1, 4, none⟩ (.slice (some ⟨g6, 0, none⟩) 0 cap6)) := (BB0.trans (below_le B6 BB0.size)).setCell (by simp) _
          have X7 := X6.other ⟨w.heap.size + 1, 4, none⟩ (.slice (some ⟨g6, 0, none⟩) 0 cap6) (by simp)
          have Z7 := Z6.set 4 (.slice (some ⟨g6, 0, none⟩) 0 cap6)
          have R7 := R6'.other ⟨w.heap.size + 1, 4, none⟩ (.slice (some ⟨g6, 0, none⟩) 0 cap6) (by simp; omega)
          have G7 := G6.other ⟨w.heap.size + 1, 4, none⟩ (.slice (some ⟨g6, 0, none⟩) 0 cap6) (by simp; omega)
          have hg7 : w.heap.size + 1 < g6 := by omega
          have hcap : 0 + 2 ≤ cap6 := by omega
          have REL := Lib.hid (show EncM w _ k q t u hs [] ah ch none 0 gh caph from ⟨g6, cap6, Z7, X7, G7, R7, hcap, hg7, BB7⟩)
          clear own6 grow6 X6 Z6 B6 F6 C6a C6e L6a L6b R6 R6' hmk hMC hc6 hg6 R7 Z7 X7 BB7
          go_wp2_with fail
          go_meet
          case rel => exact REL.out
      | some ad =>
        have hE0 := HM.out _ BB0
        obtain ⟨MC, hMC0⟩ : ∃ MC, MC = madeCells (Value.cells (.bool false)) ((ms.length + 2) * i1.size) := ⟨_, rfl⟩
        have hMC : MC.size = (ms.length + 2) * 1 := by
          have := size_madeCells (Value.cells (.bool false)) ((ms.length + 2) * i1.size)
          rw [← hMC0, HJ.out.2.2.1] at this
          exact this
        have hmk : ∀ W : World, (Instr.makeSlice 24 (.int .i64 0) (.int .i64 ((ms.length : Int) + 2))).run Try.prog W = .ok (.slice (some ⟨W.heap.size, 0, none⟩) 0 (ms.length + 2)) (W.alloc (.cells MC 4)) := by
          intro W
          have := run_makeSlice (w := W) (P := Try.prog) 24 4 i1 _ Try.underlying24 HJ.out.1 HJ.out.2.1 .i64 .i64 0 ((ms.length : Int) + 2) (by omega) (by omega) (by rw [HJ.out.2.2.1]; omega) (by rw [HJ.out.2.2.2]; omega) (by omega)
          rw [show (((ms.length : Int) + 2) : Int).toNat = ms.length + 2 from (by omega), ← hMC0] at this
          exact this
        have c5 : W0.cell? ⟨w.heap.size, 4, none⟩ = some (.slice (some ad) ms.length cm) := x0.cell 4 (by simp)
        have lx := x0.lt
        have lz := z0.lt
        have fz5 := z0.frozen 4 (by simp)
        have z5 : W0.cell? ⟨w.heap.size + 1, 4, none⟩ = some (.slice (some ad) ms.length cm) := z0.cell 4 (by simp)
        have hwr : IntKind.i64.wrap ((ms.length : Int) + 2) = (ms.length : Int) + 2 := IntWalk.i64_in _ (by omega)
        clear hMC0
        go_region_held3 (fun w' => w'.cell? ⟨w.heap.size, 4, none⟩ = some (.slice (some ad) ms.length cm)) (first | go_keep | exact C5a | exact C6a | exact (X6.other ⟨w.heap.size + 1, 4, none⟩ _ (by simp)).cell 4 (by simp)) (first | (refine step_append_own rfl (.tmp 40) (.tmp 42) 24 rfl W0.heap.size 4 i1 (.bool false) 1 1 Try.underlying24 HJ.out.1 HJ.out.2.1 HJ.out.2.2.1 HJ.out.2.2.2 rfl (by decide) (.slice (some ⟨W0.heap.size, 0, none⟩) 0 (ms.length + 2)) 0 [] (by simp [Act.eval, Act.put]) (by exact (show World.ownsRow (W0.drew.alloc (.cells MC 4)) W0.heap.size 4 1 (.slice (some ⟨W0.heap.size, 0, none⟩) 0 (ms.length + 2)) 0 [] from (World.ownsRow_made (base := W0.heap.size) (e := 4) (size := 1) W0.drew MC (ms.length + 2) (by simp) (by unfold maxLen; omega) hMC))) ad ms.length cm (ms.map (Value.bool)) (by simp [Act.eval, Act.put]) (by simp) (by exact (vals_news (ValS.below hE0 (show Below W0.heap.size W0 (W0.drew.alloc (.cells MC 4)) from (by go_grown)) (Nat.le_refl _)))) (by intro u hu; simp only [List.mem_map] at hu; obtain ⟨z, _, rfl⟩ := hu; rfl) (by unfold maxLen; omega) (by omega) (by simp; try omega) ?_; intro v5 w5 own5 grow5; have B5 : Below W0.heap.size W0 w5 := grown_below4 ((Below.refl W0.heap.size W0).drew.alloc (Nat.le_refl _) (.cells MC 4)) grow5 (by intro kk hkk; have := Option.some.inj hkk; simp at this; omega) (by simp; try omega); have X5 := x0.below B5 x0.lt; have Z5 := z0.below B5 z0.lt; have G5 := gr0.below B5 gr0.lt; have C5a : w5.cell? ⟨w.heap.size, 4, none⟩ = some (.slice (some ad) ms.length cm) := X5.cell 4 (by simp); have L5a := X5.lt; have L5b := Z5.lt; have F5 := Z5.frozen 4 (by simp); have C5e : w5.cell? ⟨w.heap.size + 1, 4, none⟩ = some (.slice (some ad) ms.length cm) := Z5.cell 4 (by simp)) | (refine step_append_own rfl (.tmp 40) (.tmp 42) 24 rfl W0.heap.size 4 i1 (.bool false) 1 1 Try.underlying24 HJ.out.1 HJ.out.2.1 HJ.out.2.2.1 HJ.out.2.2.2 rfl (by decide) (.slice (some ⟨W0.heap.size, 0, none⟩) 0 (ms.length + 2)) 0 [] (by simp [Act.eval, Act.put]) (by exact (show World.ownsRow ((W0.drew.alloc (.cells MC 4)).alloc (.cells #[.bool true, .bool false] 4)) W0.heap.size 4 1 (.slice (some ⟨W0.heap.size, 0, none⟩) 0 (ms.length + 2)) 0 [] from World.ownsRow.alloc (World.ownsRow_made (base := W0.heap.size) (e := 4) (size := 1) W0.drew MC (ms.length + 2) (by simp) (by unfold maxLen; omega) hMC) (.cells #[.bool true, .bool false] 4))) ad ms.length cm (ms.map (Value.bool)) (by simp [Act.eval, Act.put]) (by simp) (by exact (vals_news (ValS.below hE0 (show Below W0.heap.size W0 ((W0.drew.alloc (.cells MC 4)).alloc (.cells #[.bool true, .bool false] 4)) from (by go_grown)) (Nat.le_refl _)))) (by intro u hu; simp only [List.mem_map] at hu; obtain ⟨z, _, rfl⟩ := hu; rfl) (by unfold maxLen; omega) (by omega) (by simp; try omega) ?_; intro v5 w5 own5 grow5; have B5 : Below W0.heap.size W0 w5 := grown_below4 (((Below.refl W0.heap.size W0).drew.alloc (Nat.le_refl _) (.cells MC 4)).alloc (by simp) (.cells #[.bool true, .bool false] 4)) grow5 (by intro kk hkk; have := Option.some.inj hkk; simp at this; omega) (by simp; try omega); have X5 := x0.below B5 x0.lt; have Z5 := z0.below B5 z0.lt; have G5 := gr0.below B5 gr0.lt; have C5a : w5.cell? ⟨w.heap.size, 4, none⟩ = some (.slice (some ad) ms.length cm) := X5.cell 4 (by simp); have L5a := X5.lt; have L5b := Z5.lt; have F5 := Z5.frozen 4 (by simp); have C5e : w5.cell? ⟨w.heap.size + 1, 4, none⟩ = some (.slice (some ad) ms.length cm) := Z5.cell 4 (by simp); have yb : RowAt ((W0.drew.alloc (.cells MC 4)).alloc (.cells #[.bool true, .bool false] 4)) (W0.heap.size + 1) [.bool true, .bool false] := (by have := rowAt_alloc (W0.drew.alloc (.cells MC 4)) #[.bool true, .bool false] 4; rw [World.size_alloc] at this; exact this); have YB := RowAt.grown (w := ((W0.drew.alloc (.cells MC 4)).alloc (.cells #[.bool true, .bool false] 4))) yb grow5 (by simp [Value.ownBlock])) | (refine step_append_own rfl (.tmp 40) (.tmp 42) 24 rfl W0.heap.size 4 i1 (.bool false) 1 1 Try.underlying24 HJ.out.1 HJ.out.2.1 HJ.out.2.2.1 HJ.out.2.2.2 rfl (by decide) (.slice (some ⟨W0.heap.size + 1, 0, none⟩) 0 (ms.length + 2)) 0 [] (by simp [Act.eval, Act.put]) (by exact (show World.ownsRow ((W0.drew.alloc (.cells #[.bool true, .bool false] 4)).alloc (.cells MC 4)) W0.heap.size 4 1 (.slice (some ⟨W0.heap.size + 1, 0, none⟩) 0 (ms.length + 2)) 0 [] from (by have := (World.ownsRow_made (base := W0.heap.size) (e := 4) (size := 1) (W0.drew.alloc (.cells #[.bool true, .bool false] 4)) MC (ms.length + 2) (by simp) (by unfold maxLen; omega) hMC); rw [World.size_alloc] at this; exact this))) ad ms.length cm (ms.map (Value.bool)) (by simp [Act.eval, Act.put]) (by simp) (by exact (vals_news (ValS.below hE0 (show Below W0.heap.size W0 ((W0.drew.alloc (.cells #[.bool true, .bool false] 4)).alloc (.cells MC 4)) from (by go_grown)) (Nat.le_refl _)))) (by intro u hu; simp only [List.mem_map] at hu; obtain ⟨z, _, rfl⟩ := hu; rfl) (by unfold maxLen; omega) (by omega) (by simp; try omega) ?_; intro v5 w5 own5 grow5; have B5 : Below W0.heap.size W0 w5 := grown_below4 (((Below.refl W0.heap.size W0).drew.alloc (Nat.le_refl _) (.cells #[.bool true, .bool false] 4)).alloc (by simp) (.cells MC 4)) grow5 (by intro kk hkk; have := Option.some.inj hkk; simp at this; omega) (by simp; try omega); have X5 := x0.below B5 x0.lt; have Z5 := z0.below B5 z0.lt; have G5 := gr0.below B5 gr0.lt; have C5a : w5.cell? ⟨w.heap.size, 4, none⟩ = some (.slice (some ad) ms.length cm) := X5.cell 4 (by simp); have L5a := X5.lt; have L5b := Z5.lt; have F5 := Z5.frozen 4 (by simp); have C5e : w5.cell? ⟨w.heap.size + 1, 4, none⟩ = some (.slice (some ad) ms.length cm) := Z5.cell 4 (by simp); have yb : RowAt ((W0.drew.alloc (.cells #[.bool true, .bool false] 4)).alloc (.cells MC 4)) W0.heap.size [.bool true, .bool false] := (rowAt_alloc W0.drew #[.bool true, .bool false] 4).alloc (.cells MC 4); have YB := RowAt.grown (w := ((W0.drew.alloc (.cells #[.bool true, .bool false] 4)).alloc (.cells MC 4))) yb grow5 (by simp [Value.ownBlock])) | (refine step_append_own rfl (.tmp 43) (.tmp 44) 24 rfl W0.heap.size 4 i1 (.bool false) 1 1 Try.underlying24 HJ.out.1 HJ.out.2.1 HJ.out.2.2.1 HJ.out.2.2.2 rfl (by decide) v5 (0 + ms.length) _ (by simp [Act.eval, Act.put]) (by exact (own5.alloc (.cells #[.bool true, .bool false] 4))) ⟨w5.heap.size, 0, none⟩ 2 2 [.bool true, .bool false] (by simp [Act.eval, Act.put]) rfl (by exact (row_news4 (rowAt_alloc w5 _ _))) (by intro u hu; simp at hu; first | (rcases hu with rfl | rfl <;> rfl) | (subst hu; rfl)) (by unfold maxLen; omega) (by omega) (by have := B5.size; simp; try omega) ?_; intro v6 w6 own6 grow6; obtain ⟨g6, cap6, rfl, hg6, hc6, R6⟩ := own_full4 own6 (by omega); have B6 : Below W0.heap.size W0 w6 := grown_below4 (B5.alloc B5.size (.cells #[.bool true, .bool false] 4)) grow6 (fun kk hkk => (own5.lt kk hkk).1) (by have := B5.size; simp; try omega); have X6 := x0.below B6 x0.lt; have Z6 := z0.below B6 z0.lt; have G6 := gr0.below B6 gr0.lt; have C6a : w6.cell? ⟨w.heap.size, 4, none⟩ = some (.slice (some ad) ms.length cm) := X6.cell 4 (by simp); have L6a := X6.lt; have L6b := Z6.lt; have F6 := Z6.frozen 4 (by simp); have C6e : w6.cell? ⟨w.heap.size + 1, 4, none⟩ = some (.slice (some ad) ms.length cm) := Z6.cell 4 (by simp); have hq1 : ((ms.length : Nat) : Int) ≤ (cap6 : Int) := (by omega)) | (refine step_append_own rfl (.tmp 43) (.tmp 44) 24 rfl W0.heap.size 4 i1 (.bool false) 1 1 Try.underlying24 HJ.out.1 HJ.out.2.1 HJ.out.2.2.1 HJ.out.2.2.2 rfl (by decide) v5 (0 + ms.length) _ (by simp [Act.eval, Act.put]) (by exact own5) ⟨W0.heap.size + 1, 0, none⟩ 2 2 [.bool true, .bool false] (by simp [Act.eval, Act.put]) rfl (by exact (row_news4 YB)) (by intro u hu; simp at hu; first | (rcases hu with rfl | rfl <;> rfl) | (subst hu; rfl)) (by unfold maxLen; omega) (by omega) (by have := B5.size; simp; try omega) ?_; intro v6 w6 own6 grow6; obtain ⟨g6, cap6, rfl, hg6, hc6, R6⟩ := own_full4 own6 (by omega); have B6 : Below W0.heap.size W0 w6 := grown_below4 B5 grow6 (fun kk hkk => (own5.lt kk hkk).1) (by have := B5.size; simp; try omega); have X6 := x0.below B6 x0.lt; have Z6 := z0.below B6 z0.lt; have G6 := gr0.below B6 gr0.lt; have C6a : w6.cell? ⟨w.heap.size, 4, none⟩ = some (.slice (some ad) ms.length cm) := X6.cell 4 (by simp); have L6a := X6.lt; have L6b := Z6.lt; have F6 := Z6.frozen 4 (by simp); have C6e : w6.cell? ⟨w.heap.size + 1, 4, none⟩ = some (.slice (some ad) ms.length cm) := Z6.cell 4 (by simp); have hq1 : ((ms.length : Nat) : Int) ≤ (cap6 : Int) := (by omega)) | (refine step_append_own rfl (.tmp 43) (.tmp 44) 24 rfl W0.heap.size 4 i1 (.bool false) 1 1 Try.underlying24 HJ.out.1 HJ.out.2.1 HJ.out.2.2.1 HJ.out.2.2.2 rfl (by decide) v5 (0 + ms.length) _ (by simp [Act.eval, Act.put]) (by exact own5) ⟨W0.heap.size, 0, none⟩ 2 2 [.bool true, .bool false] (by simp [Act.eval, Act.put]) rfl (by exact (row_news4 YB)) (by intro u hu; simp at hu; first | (rcases hu with rfl | rfl <;> rfl) | (subst hu; rfl)) (by unfold maxLen; omega) (by omega) (by have := B5.size; simp; try omega) ?_; intro v6 w6 own6 grow6; obtain ⟨g6, cap6, rfl, hg6, hc6, R6⟩ := own_full4 own6 (by omega); have B6 : Below W0.heap.size W0 w6 := grown_below4 B5 grow6 (fun kk hkk => (own5.lt kk hkk).1) (by have := B5.size; simp; try omega); have X6 := x0.below B6 x0.lt; have Z6 := z0.below B6 z0.lt; have G6 := gr0.below B6 gr0.lt; have C6a : w6.cell? ⟨w.heap.size, 4, none⟩ = some (.slice (some ad) ms.length cm) := X6.cell 4 (by simp); have L6a := X6.lt; have L6b := Z6.lt; have F6 := Z6.frozen 4 (by simp); have C6e : w6.cell? ⟨w.heap.size + 1, 4, none⟩ = some (.slice (some ad) ms.length cm) := Z6.cell 4 (by simp); have hq1 : ((ms.length : Nat) : Int) ≤ (cap6 : Int) := (by omega)) | fail)
        all_goals
          have R6' : RowAt w6 g6 (ms.map (Value.bool) ++ [.bool true, .bool false]) := R6
          have BB7 : Below w.heap.size w (w6.setCell ⟨w.heap.size + 1, 4, none⟩ (.slice (some ⟨g6, 0, none⟩) ms.length cap6)) := (BB0.trans (below_le B6 BB0.size)).setCell (by simp) _
          have X7 := X6.other ⟨w.heap.size + 1, 4, none⟩ (.slice (some ⟨g6, 0, none⟩) ms.length cap6) (by simp)
          have Z7 := Z6.set 4 (.slice (some ⟨g6, 0, none⟩) ms.length cap6)
          have R7 := R6'.other ⟨w.heap.size + 1, 4, none⟩ (.slice (some ⟨g6, 0, none⟩) ms.length cap6) (by simp; omega)
          have G7 := G6.other ⟨w.heap.size + 1, 4, none⟩ (.slice (some ⟨g6, 0, none⟩) ms.length cap6) (by simp; omega)
          have hg7 : w.heap.size + 1 < g6 := by omega
          have hcap : ms.length + 2 ≤ cap6 := by omega
          have REL := Lib.hid (show EncM w _ k q t u hs ms ah ch (some ad) cm gh caph from ⟨g6, cap6, Z7, X7, G7, R7, hcap, hg7, BB7⟩)
          clear own6 grow6 X6 Z6 B6 F6 C6a C6e L6a L6b R6 R6' hmk hMC hc6 hg6 R7 Z7 X7 BB7
          go_wp2_with fail
          go_meet
          case rel => exact REL.out
    case rest =>
      obtain ⟨g6, cap6, Z7, X7, GH, GM, hcap2, hg2, BB⟩ := hcut
      have hcap1 := HC1.out
      have t1 : (Q.toList == Q.toList) = true := by simp
      have t2 : (e0 == e0) = true := by simp
      have j1 : (0 : Int) ≤ (hs.length : Int) + 2 := by omega
      have j2 : (hs.length : Int) + 2 ≤ (caph : Int) := by omega
      have j3 : (0 : Int) ≤ (ms.length : Int) + 2 := by omega
      have j4 : (ms.length : Int) + 2 ≤ (cap6 : Int) := by omega
      have j5 : ((hs.length : Int) + 2).toNat = hs.length + 2 := by omega
      have j6 : ((ms.length : Int) + 2).toNat = ms.length + 2 := by omega
      obtain ⟨c0, c1, c2, c3, c4, c5⟩ := sixr_cells Z7
      go_wp2_with fail
      refine (HE.out _ _ _ _ _ (vals_pre GH) (vals_pre GM)).mono ?_
      rintro e w8 ⟨rfl, hb8⟩
      have Z8 := Z7.below hb8 Z7.lt
      have X8 := X7.below hb8 X7.lt
      have H8 := GH.below hb8 GH.lt
      have M8 := GM.below hb8 GM.lt
      have B8 := below_chain BB hb8 BB.size
      clear c0 c1 c2 c3 c4 c5 Z7 X7 GH GM BB hb8
      obtain ⟨c0, c1, c2, c3, c4, c5⟩ := sixr_cells X8
      go_wp2_with fail
      refine (HR.out _ _ _ _ _ (HH.out _ B8) (HM.out _ B8)).mono ?_
      rintro e w9 ⟨rfl, hb9⟩
      have Z9 := Z8.below hb9 Z8.lt
      have X9 := X8.below hb9 X8.lt
      have H9 := H8.below hb9 H8.lt
      have M9 := M8.below hb9 M8.lt
      have B9 := below_chain B8 hb9 B8.size
      clear c0 c1 c2 c3 c4 c5 Z8 X8 H8 M8 B8 hb9
      obtain ⟨c0, c1, c2, c3, c4, c5⟩ := sixr_cells X9
      obtain ⟨d0, d1, d2, d3, d4, d5⟩ := sixr_cells Z9
      go_wp2_with fail
      refine (HS.out _ _ _ _ _ _ _ _ _ (vals_pre H9) (vals_pre M9) (HH.out _ B9) (HM.out _ B9)).mono ?_
      rintro e w10 ⟨rfl, hb10⟩
      have X10 := X9.below hb10 X9.lt
      have H10 := H9.below hb10 H9.lt
      have M10 := M9.below hb10 M9.lt
      have B10 := below_chain B9 hb10 B9.size
      clear c0 c1 c2 c3 c4 c5 d0 d1 d2 d3 d4 d5 Z9 X9 H9 M9 B9 hb10
      have c3 : w10.cell? ⟨w.heap.size, 3, none⟩ = some (.slice ah hs.length ch) := X10.cell 3 (by simp)
      have c4 : w10.cell? ⟨w.heap.size, 4, none⟩ = some (.slice am ms.length cm) := X10.cell 4 (by simp)
      have d1 : w10.cell? ⟨gh, hs.length, none⟩ = some (.int .i64 (-70)) := by rw [H10.cell _ (by simp), List.getElem?_append_right (by simp)]; simp
      have d2 : w10.cell? ⟨gh, hs.length + 1, none⟩ = some (.int .i64 (-71)) := by rw [H10.cell _ (by simp), List.getElem?_append_right (by simp)]; simp
      have d3 : w10.cell? ⟨g6, ms.length, none⟩ = some (.bool true) := by rw [M10.cell _ (by simp), List.getElem?_append_right (by simp)]; simp
      have d4 : w10.cell? ⟨g6, ms.length + 1, none⟩ = some (.bool false) := by rw [M10.cell _ (by simp), List.getElem?_append_right (by simp)]; simp
      have i0' : (0 : Int) ≤ (hs.length : Int) := by omega
      have i1' : (hs.length : Int) < ((hs.length + 2 : Nat) : Int) := by omega
      have i2' : (0 : Int) ≤ (hs.length : Int) + 1 := by omega
      have i3' : (hs.length : Int) + 1 < ((hs.length + 2 : Nat) : Int) := by omega
      have i4' : ((hs.length : Int) + 1).toNat = hs.length + 1 := by omega
      have i5' : (0 : Int) ≤ (ms.length : Int) := by omega
      have i6' : (ms.length : Int) < ((ms.length + 2 : Nat) : Int) := by omega
      have i7' : (0 : Int) ≤ (ms.length : Int) + 1 := by omega
      have i8' : (ms.length : Int) + 1 < ((ms.length + 2 : Nat) : Int) := by omega
      have i9' : ((ms.length : Int) + 1).toNat = ms.length + 1 := by omega
      have k1' : (hs.length : Int) < (hs.length : Int) + 2 := by omega
      have k2' : (hs.length : Int) + 1 < (hs.length : Int) + 2 := by omega
      have k3' : (ms.length : Int) < (ms.length : Int) + 2 := by omega
      have k4' : (ms.length : Int) + 1 < (ms.length : Int) + 2 := by omega
      go_wp2_with fail
      refine (HA.out _).mono ?_
      rintro e w11 ⟨rfl, hb11⟩
      have B11 := below_chain B10 hb11 B10.size
      go_wp2_with fail
      go_ret
      exact ⟨rfl, B11⟩

end Go.Proofs.Ytfgnemddamebaaa
