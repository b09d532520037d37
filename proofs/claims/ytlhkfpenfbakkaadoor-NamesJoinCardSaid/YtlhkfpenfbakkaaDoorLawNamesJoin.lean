/- For every input the law glissadelaw13.NamesJoin returns true; within the sizes that the law itself asks; else it returns true at once; a tied card: two package variables of unicode/utf8 are laid as the text lays them; the card speaks of a pruned copy of the project. -/
import Derived.BigQuiet
import Derived.Deep.QuietTactic
import Derived.Deep.RegionHeld3
import Derived.Laws.AppendOwnNone
import Derived.SevenTiedAt
import Derived.Test.YtlhkfpenfbakkaaDoorNamLaw2
import Derived.Test.YtlhkfpenfbakkaaDoorGotStrs
import Derived.Test.YtlhkfpenfbakkaaDoorTie
import Derived.Test.YtlhkfpenfbakkaaDoorCards
import Derived.Test.YtlhkfpenfbakkaaDoorFrameL
set_option linter.unusedVariables false
set_option linter.unusedSimpArgs false
set_option maxRecDepth 100000
namespace Go.Proofs.YtlhkfpenfbakkaaDoor
open Go.RowKit Go.Joins

theorem split_list (s : ByteArray) : ∃ (m : List ByteArray) (z : Int), splitP (bts s) = (m.map bts, z) := by
  refine ⟨(splitP (bts s)).1.map tx, (splitP (bts s)).2, Prod.ext ?_ rfl⟩
  rw [List.map_map]
  have : (bts ∘ tx) = id := funext fun l => tx_bts l
  rw [this]; simp
theorem split_short {s : ByteArray} {m : List ByteArray} {z : Int} (h : splitP (bts s) = (m.map bts, z)) : m.length ≤ 16 := by
  rcases splitP_two (bts s) with h2 | h2 | h2
  · have h3 := splitP_ok h2
    rw [h] at h3
    have := h3.1.2.1
    simpa using this
  · rw [h] at h2
    injection h2 with h2 _
    have := congrArg List.length h2
    rw [List.length_map, List.length_nil] at this
    omega
  · rw [h] at h2
    injection h2 with h2 _
    have := congrArg List.length h2
    rw [List.length_map, List.length_nil] at this
    omega

theorem pk_tail {W : World} {g : Nat} {l : List ByteArray} {x y : Value} (h : RowAt W g (strs l ++ [x, y])) : W.cell? ⟨g, l.length, none⟩ = some x ∧ W.cell? ⟨g, l.length + 1, none⟩ = some y := by
  have hl := strs_len l
  constructor
  · rw [h.cell _ (by rw [List.length_append, hl]; simp; try omega), List.getElem?_append_right (by omega), hl, Nat.sub_self]
    rfl
  · rw [h.cell _ (by rw [List.length_append, hl]; simp; try omega), List.getElem?_append_right (by omega), hl, show l.length + 1 - l.length = 1 by omega]
    rfl
theorem vals_front {W : World} {g : Nat} {l : List ByteArray} {r : List Value} (h : RowAt W g (strs l ++ r)) : ValS W (some ⟨g, 0, none⟩) (strs l) := by
  refine .inr ⟨g, 0, rfl, h.lt, fun i u hu => ?_⟩
  have hi := (List.getElem?_eq_some_iff.1 hu).1
  rw [Nat.zero_add, h.cell i (by rw [List.length_append]; omega), List.getElem?_append_left hi]
  exact hu
theorem strs_one (l : List ByteArray) : ∀ u ∈ strs l, u.oneCell' = true := by
  intro u hu
  rw [strs, List.mem_map] at hu
  obtain ⟨x, _, rfl⟩ := hu
  rfl
/-- what stands: the copy with its two texts behind; the list that came in; all below -/
def PkG (w W : World) (g : Nat) (a : Option Addr) (l : List ByteArray) : Prop := RowAt W g (strs l ++ [.string ⟨#[120, 47, 49]⟩, .string ⟨#[120, 47, 50]⟩]) ∧ ValS W a (strs l) ∧ Below w.heap.size w W
theorem PkG.keep {w W W' : World} {g : Nat} {a : Option Addr} {l : List ByteArray} (h : PkG w W g a l) (hb : Below W.heap.size W W') : PkG w W' g a l :=
  ⟨h.1.below hb h.1.lt, h.2.1.below hb (Nat.le_refl _), below_chain h.2.2 hb h.2.2.size⟩

set_option maxHeartbeats 8000000 in
theorem walk_namesJoin (w : World) (a : Option Addr) (cap : Nat) (l : List ByteArray) (hcl : l.length ≤ cap) (hcm : cap ≤ maxLen) (hV : ValS w a (strs l)) (hs : ∀ z ∈ l, z.size ≤ maxLen) (hnone : a = none → cap = 0) :
    Calls Tryd.prog 4 #[.slice a l.length cap] w fun e w' => e = .returned (.bool true) ∧ Below w.heap.size w w' := by
  have HGr := Lib.hid (great13 a cap l w (by omega) hV hs)
  have HV := Lib.hid hV
  have B0 : Below w.heap.size w w := Below.refl _ _
  obtain ⟨i0, hi0, hz0, hz1, hz2⟩ := info_parts info_str
  have HI := Lib.hid (And.intro hi0 (And.intro hz0 (And.intro hz1 hz2)))
  clear hV hs hi0 hz0 hz1 hz2
  by_cases hbig : 200 < l.length ∨ 5000 < (flat (l.map bts)).length
  · go_enter Tryd.func4, Tryd.ntmps4
    go_wp2_with fail
    refine HGr.out.mono ?_
    rintro e w1 ⟨⟨b, rfl, hb100⟩, rfl⟩
    cases b with
    | false => exact absurd (hb100 rfl) (by omega)
    | true =>
      clear hb100
      go_wp2_with fail
      go_ret
      exact ⟨rfl, B0⟩
  have hl : (l.length : Int) ≤ 200 := by omega
  have hfl : (flat (l.map bts)).length ≤ 1000000 := by omega
  obtain ⟨MC, hMC0⟩ : ∃ MC, MC = madeCells (Value.string ⟨#[]⟩).cells ((l.length + 2) * i0.size) := ⟨_, rfl⟩
  have hMC : MC.size = (l.length + 2) * 1 := by
    have := size_madeCells (Value.string ⟨#[]⟩).cells ((l.length + 2) * i0.size)
    rw [← hMC0, HI.out.2.2.1] at this
    exact this
  have hmk : ∀ W : World, (Instr.makeSlice 22 (.int .i64 0) (.int .i64 ((l.length : Int) + 2))).run Tryd.prog W = .ok (.slice (some ⟨W.heap.size, 0, none⟩) 0 (l.length + 2)) (W.alloc (.cells MC 9)) := by
    intro W
    have := run_makeSlice (w := W) (P := Tryd.prog) 22 9 i0 _ Tryd.underlying22 HI.out.1 HI.out.2.1 .i64 .i64 0 ((l.length : Int) + 2) (by omega) (by omega) (by rw [HI.out.2.2.1]; omega) (by rw [HI.out.2.2.2]; omega) (by omega)
    rw [show (((l.length : Int) + 2) : Int).toNat = l.length + 2 from (by omega), ← hMC0] at this
    exact this
  have HO : Hid ((w.alloc (.cells MC 9)).ownsRow w.heap.size 9 1 (.slice (some ⟨w.heap.size, 0, none⟩) 0 (l.length + 2)) 0 []) := World.ownsRow_made w MC (l.length + 2) (Nat.le_refl _) (by unfold maxLen; omega) hMC
  have hbA : Below w.heap.size w (w.alloc (.cells MC 9)) := B0.alloc (Nat.le_refl _) _
  have HB1 := Lib.hid hbA
  have HVA := Lib.hid (HV.out.below hbA (Nat.le_refl _))
  clear hMC hMC0 hbA hbig
  have hw2 : IntKind.i64.wrap ((l.length : Int) + 2) = (l.length : Int) + 2 := IntWalk.i64_in _ (by omega)
  have hw1 : IntKind.i64.wrap ((l.length : Int) + 1) = (l.length : Int) + 1 := IntWalk.i64_in _ (by omega)
  cases a with
  | none =>
    obtain rfl : l = [] := by
      rcases HV.out with h | ⟨_, _, h, _⟩
      · have := congrArg List.length h
        rw [strs_len] at this
        exact List.length_eq_zero_iff.1 (by simpa using this)
      · cases h
    obtain rfl := hnone rfl
    have hmk2 : ∀ W : World, (Instr.makeSlice 22 (.int .i64 0) (.int .i64 2)).run Tryd.prog W = .ok (.slice (some ⟨W.heap.size, 0, none⟩) 0 2) (W.alloc (.cells MC 9)) := hmk
    clear hmk hw1 hw2 hfl
    go_enter Tryd.func4, Tryd.ntmps4
    go_wp2_with fail
    refine HGr.out.mono ?_
    rintro e w1 ⟨⟨b, rfl, hb100⟩, rfl⟩
    cases b with
    | true =>
      clear hb100
      go_wp2_with fail
      go_ret
      exact ⟨rfl, B0⟩
    | false =>
      clear hb100 HGr
      have HO2 : Hid ((w.alloc (.cells MC 9)).ownsRow w.heap.size 9 1 (.slice (some ⟨w.heap.size, 0, none⟩) 0 2) 0 []) := HO.out
      have B5 := HB1.out
      have HRw : Hid (RowAt ((w.alloc (.cells MC 9)).alloc (.cells #[.string ⟨#[120, 47, 49]⟩, .string ⟨#[120, 47, 50]⟩] 9)) (w.heap.size + 1) [.string ⟨#[120, 47, 49]⟩, .string ⟨#[120, 47, 50]⟩]) := by
        have := rowAt_alloc (w.alloc (.cells MC 9)) #[.string ⟨#[120, 47, 49]⟩, .string ⟨#[120, 47, 50]⟩] 9
        rw [World.size_alloc] at this
        exact this
      go_wp2_with (at_builtin; refine wpList_append_own _ rfl _ _ 22 rfl w.heap.size 9 i0 (.string ⟨#[]⟩) 1 16 Tryd.underlying22 HI.out.1 HI.out.2.1 HI.out.2.2.1 HI.out.2.2.2 rfl (by decide) _ 0 _ rfl (HO2.out.alloc _) ⟨w.heap.size + 1, 0, none⟩ 2 2 [.string ⟨#[120, 47, 49]⟩, .string ⟨#[120, 47, 50]⟩] rfl rfl (row_news4 HRw.out) (by intro u hu; simp at hu; rcases hu with rfl | rfl <;> rfl) (by unfold maxLen; omega) (by omega) (by simp; omega) ?_)
      intro v6 w6 own6 grow6 _
      obtain ⟨g6, cap6, rfl, hg6, hc6, R6⟩ := own_full4 own6 (by omega)
      have B6 := grown_below4 (B5.alloc B5.size (.cells #[.string ⟨#[120, 47, 49]⟩, .string ⟨#[120, 47, 50]⟩] 9)) grow6 (fun j hj => by simp [Value.ownBlock] at hj; omega) (by simp; omega)
      clear B5
      have HG6 : Hid (PkG w w6 g6 none []) := ⟨R6, HV.out.below B6 (Nat.le_refl _), B6⟩
      have q0 : (0 : Int) ≤ (0 : Int) := by omega
      have q1 : (0 : Int) + 2 ≤ (cap6 : Int) := by omega
      have q2 : (0 : Int) ≤ (cap6 : Int) := by omega
      have HPK := Lib.hid (cjoin_any (some ⟨g6, 0, none⟩) cap6 [] w6 (vals_front R6) (by first | omega | (simp; done) | (simp; omega)) (by first | exact hfl | decide))
      have HRP := Lib.hid (fun W (h : ValS W none (strs [])) => rjoin_any none 0 [] W h (by first | omega | (simp; done) | (simp; omega)))
      unfold JoinR at HPK HRP
      generalize tx (joinP (List.map bts [])).1 = pb at *
      generalize (joinP (List.map bts [])).2 = pe at *
      clear own6 grow6 hg6 hc6 R6 B6 HRw HO2
      go_wp2_with fail
      refine HPK.out.mono ?_
      rintro e w7 ⟨rfl, hb7⟩
      have HG7 := Lib.hid (HG6.out.keep hb7)
      clear hb7 HPK HG6
      go_wp2_with fail
      refine (HRP.out _ HG7.out.2.1).mono ?_
      rintro e w8 ⟨rfl, hb8⟩
      have HG8 := Lib.hid (HG7.out.keep hb8)
      have HSm := Lib.hid (same13 (some ⟨g6, 0, none⟩) none cap6 0 [] w8 (by first | omega | (simp; done) | (simp; omega)) (vals_front HG8.out.1) HG8.out.2.1)
      clear hb8 HRP HG7
      go_wp2_with fail
      refine HSm.out.mono ?_
      rintro e w9 ⟨rfl, hb9⟩
      have HG9 := Lib.hid (HG8.out.keep hb9)
      obtain ⟨t1, t2⟩ := pk_tail HG9.out.1
      have t3 : w9.cell? ⟨g6, 0, none⟩ = some (.string ⟨#[120, 47, 49]⟩) := t1
      have t4 : w9.cell? ⟨g6, 1, none⟩ = some (.string ⟨#[120, 47, 50]⟩) := t2
      clear t1 t2
      have B9 := HG9.out.2.2
      have q3 : (0 : Int) < (0 : Int) + 2 := by omega
      have q4 : (0 : Int) + 1 < (0 : Int) + 2 := by omega
      have q5 : (0 : Int) ≤ (0 : Int) + 1 := by omega
      clear hb9 HSm HG8
      go_wp2_with fail
      refine (alive13 _).mono ?_
      rintro e w10 ⟨rfl, hb10⟩
      have B10 := below_chain B9 hb10 B9.size
      go_wp2_with fail
      go_ret
      exact ⟨rfl, B10⟩
  | some ad =>
    clear hnone
    go_enter Tryd.func4, Tryd.ntmps4
    go_wp2_with fail
    refine HGr.out.mono ?_
    rintro e w1 ⟨⟨b, rfl, hb100⟩, rfl⟩
    cases b with
    | true =>
      clear hb100
      go_wp2_with fail
      go_ret
      exact ⟨rfl, B0⟩
    | false =>
      clear hb100 HGr
      have HNw2 := Lib.hid (vals_news HVA.out)
      go_wp2_with (at_builtin; refine wpList_append_own _ rfl _ _ 22 rfl w.heap.size 9 i0 (.string ⟨#[]⟩) 1 16 Tryd.underlying22 HI.out.1 HI.out.2.1 HI.out.2.2.1 HI.out.2.2.2 rfl (by decide) _ 0 [] rfl HO.out ad l.length cap (strs l) rfl (by rw [strs_len, Nat.mul_one]) HNw2.out (strs_one l) (by unfold maxLen; omega) (by omega) (by simp) ?_)
      intro v5 w5 own5 grow5 _
      have HO5 : Hid (w5.ownsRow w.heap.size 9 1 v5 l.length (strs l)) := by
        exact own5
      have B5 : Below w.heap.size w w5 := grown_below4 HB1.out grow5 (fun j hj => by simp [Value.ownBlock] at hj; omega) (by simp)
      clear grow5 HNw2 own5
      have HL5 := Lib.hid (fun j hj => World.ownsRow.lt HO5.out j hj)
      have HRw := Lib.hid (row_news4 (rowAt_alloc w5 #[.string ⟨#[120, 47, 49]⟩, .string ⟨#[120, 47, 50]⟩] 9))
      go_wp2_with (at_builtin; refine wpList_append_own _ rfl _ _ 22 rfl w.heap.size 9 i0 (.string ⟨#[]⟩) 1 16 Tryd.underlying22 HI.out.1 HI.out.2.1 HI.out.2.2.1 HI.out.2.2.2 rfl (by decide) _ l.length _ rfl (HO5.out.alloc _) ⟨w5.heap.size, 0, none⟩ 2 2 [.string ⟨#[120, 47, 49]⟩, .string ⟨#[120, 47, 50]⟩] rfl rfl HRw.out (by intro u hu; simp at hu; rcases hu with rfl | rfl <;> rfl) (by unfold maxLen; omega) (by omega) (by have := B5.size; simp; omega) ?_)
      intro v6 w6 own6 grow6 _
      obtain ⟨g6, cap6, rfl, hg6, hc6, R6⟩ := own_full4 own6 (by omega)
      have B6 := grown_below4 (B5.alloc B5.size (.cells #[.string ⟨#[120, 47, 49]⟩, .string ⟨#[120, 47, 50]⟩] 9)) grow6 (fun j hj => (HL5.out j hj).1) (by have := B5.size; simp; omega)
      have HG6 : Hid (PkG w w6 g6 (some ad) l) := ⟨R6, HV.out.below B6 (Nat.le_refl _), B6⟩
      have q0 : (0 : Int) ≤ (l.length : Int) := by omega
      have q1 : (l.length : Int) + 2 ≤ (cap6 : Int) := by omega
      have q2 : (l.length : Int) ≤ (cap6 : Int) := by omega
      have HPK := Lib.hid (cjoin_any (some ⟨g6, 0, none⟩) cap6 l w6 (vals_front R6) (by first | omega | (simp; done) | (simp; omega)) (by first | exact hfl | decide))
      have HRP := Lib.hid (fun W (h : ValS W (some ad) (strs l)) => rjoin_any (some ad) cap l W h (by first | omega | (simp; done) | (simp; omega)))
      unfold JoinR at HPK HRP
      generalize tx (joinP (List.map bts l)).1 = pb at *
      generalize (joinP (List.map bts l)).2 = pe at *
      clear own6 grow6 hg6 hc6 R6 B6 B5 HL5 HO5 HRw
      go_wp2_with fail
      refine HPK.out.mono ?_
      rintro e w7 ⟨rfl, hb7⟩
      have HG7 := Lib.hid (HG6.out.keep hb7)
      clear hb7 HPK HG6
      go_wp2_with fail
      refine (HRP.out _ HG7.out.2.1).mono ?_
      rintro e w8 ⟨rfl, hb8⟩
      have HG8 := Lib.hid (HG7.out.keep hb8)
      have HSm := Lib.hid (same13 (some ⟨g6, 0, none⟩) (some ad) cap6 cap l w8 (by first | omega | (simp; done) | (simp; omega)) (vals_front HG8.out.1) HG8.out.2.1)
      clear hb8 HRP HG7
      go_wp2_with fail
      refine HSm.out.mono ?_
      rintro e w9 ⟨rfl, hb9⟩
      have HG9 := Lib.hid (HG8.out.keep hb9)
      obtain ⟨t1, t2⟩ := pk_tail HG9.out.1
      have B9 := HG9.out.2.2
      have q3 : (l.length : Int) < (l.length : Int) + 2 := by omega
      have q4 : (l.length : Int) + 1 < (l.length : Int) + 2 := by omega
      have q5 : (0 : Int) ≤ (l.length : Int) + 1 := by omega
      clear hb9 HSm HG8
      go_wp2_with fail
      refine (alive13 _).mono ?_
      rintro e w10 ⟨rfl, hb10⟩
      have B10 := below_chain B9 hb10 B9.size
      go_wp2_with fail
      go_ret
      exact ⟨rfl, B10⟩

/-! ### the frame (printed by mklaw.py) -/

set_option maxRecDepth 100000 in
theorem lifted_namesJoin (os : Os) (started : os.Started) (H : Type) (enc : TypeId × Value → H) :
    ReturnsInHanded {} Tryd.checked os 4 .any (fun w args => (Rows.namesJoinSpec.pre enc Tryd.prog Tryd.f4 Rows.namesJoinRow.domain false w args ∧ laidMetH Tryd.prog Rows.namesJoinRow.laid w) ∧ sizedMet enc Tryd.prog Tryd.f4 (OpenSpec.ofChange Rows.namesJoinSpec) false w args) (Rows.namesJoinSpec.post enc Tryd.prog Tryd.f4 false true false false) := by
  refine law_step_laid (C := Tryd.checked) (tb := 4) (by kernel_rfl) (by kernel_rfl) started (by kernel_rfl) Tryd.func4 rfl Tryd.underlying4 rfl ?_ ?_
    (ChangeSpec.witness_shaped (enc := enc) (C := Tryd.checked) (os := os) (X := fun w _ => laidMetH Tryd.prog Rows.namesJoinRow.laid w) false (World.laidAll Tryd.prog os Rows.namesJoinRow.laid) #[.slice none 0 0] 8 (World.laidAll_os _ _ _)
      (World.shaped_of_ZipB (by kernel_rfl) (by kernel_rfl)) (by kernel_rfl) (by kernel_rfl) (by kernel_rfl)
      (by rw [MakeChecks.laidMetH_plain _ _ _ (by kernel_rfl)]; exact laidMet_laidAll _ (by kernel_rfl) (by kernel_rfl))) ?_
  · intro ds hl
    match ds, hl with
    | [d0], _ => rfl
  · intro t ht
    rw [show Tryd.f4.params.toList = [22] from by rw [Tryd.params4]] at ht
    simp only [List.mem_cons, List.not_mem_nil, or_false] at ht
    rcases ht with rfl
    · exact ⟨by kernel_rfl, of_decide_eq_true (by kernel_rfl)⟩
  · intro W args hG
    rw [show Tryd.f4.params.toList = [22] from by rw [Tryd.params4]] at hG
    obtain ⟨v0, rfl, g0⟩ := gotAll_args1 hG
    obtain ⟨a0, cap0, l0, rfl, hc0, hm0, hV0, hs0, hn0⟩ := got_strs g0
    exact walk_namesJoin W a0 cap0 l0 hc0 hm0 hV0 hs0 hn0

theorem namesJoin_over : Rows.namesJoinRow.holds Tryd.pinned (OpenSpec.ofChange Rows.namesJoinSpec) :=
  OpenClaim.holds_of_wide 4 Tryd.f4 rfl rfl rfl rfl rfl rfl rfl ⟨rfl, rfl, rfl, rfl, rfl⟩ rfl rfl rfl rfl rfl (by kernel_rfl) Tryd.func4 (by kernel_rfl)
    (of_decide_eq_true (by kernel_rfl)) (by unfold Func.isWrapper; first | (rw [if_pos (by decide +kernel)]; kernel_rfl) | (rw [if_neg (by decide +kernel)]; exact ⟨rfl, rfl⟩))
    (fun os started H enc _ => lifted_namesJoin os started H enc)

theorem namesJoin_holds : Rows.NamesJoinCardSaid :=
  Claim7.holds_tied_plain_at .later [] [.data, .pinned] true (true, "0b2efbb8c5e64fd6dce629912144b1bf5c6fe063e2a189094e2917efd15ad8c6") false namesJoin_over (fun _ h => by cases h) (by kernel_rfl) (fun _ h => by cases h) namesJoin_row_tie rfl ⟨rfl, rfl⟩ (by kernel_rfl) rfl
    (fun f fn hf hfn => by
      obtain rfl : f = 4 := Option.some.inj ((show Tryd.prog.funcNamed "glissade/glissadelaw13.NamesJoin" = some 4 by kernel_rfl).symm.trans hf) |>.symm
      obtain rfl : fn = Tryd.f4 := (Option.some.inj (Tryd.func4.symm.trans hfn)).symm
      exact ⟨by kernel_rfl, fun j t ht => by
        rw [Tryd.params4] at ht
        have hm : t ∈ [22] := by simpa using Array.mem_of_getElem? ht
        have hall : ([22].all fun u => !Tryd.prog.wantsStandIn u) = true := by kernel_rfl
        exact (show Tryd.prog.wantsStandIn t = false by simpa using List.all_eq_true.1 hall t hm)⟩)
    (by kernel_rfl)
#print axioms namesJoin_holds

end Go.Proofs.YtlhkfpenfbakkaaDoor
