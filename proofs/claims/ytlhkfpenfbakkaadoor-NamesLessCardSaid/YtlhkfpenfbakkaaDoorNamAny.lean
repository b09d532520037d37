/- Walks: strings.ContainsAny(s, "\x00/") of a text of at most 32 bytes, whatever bytes they are. -/
import Derived.Test.YtlhkfpenfbakkaaDoorPlainNam
import Derived.Test.YtlhkfpenfbakkaaDoorRuneNext
import Derived.Test.YtlhkfpenfbakkaaDoorRows
import Derived.Test.YtlhkfpenfbakkaaDoorAid
import Derived.Test.YtlhkfpenfbakkaaDoorShelf
import Derived.Laws.RangeAny
import Derived.Laws.Runes
import Derived.Deep.LoopGhost
import Derived.WalkMore
import Derived.ScopeJumps
import Derived.WalkKit
import Derived.WalkSpells
import Derived.WalkLawsBesides
import Derived.Handy
import Derived.Lib.Hide
import Derived.BigQuiet
import Derived.Deep.QuietTactic
set_option linter.unusedVariables false
set_option linter.unusedSimpArgs false
set_option maxRecDepth 100000
namespace Go.Proofs.YtlhkfpenfbakkaaDoor
open Go.RowKit Go.Joins

/-- the two bytes that no name has -/
def barred : ByteArray := ⟨#[0, 47]⟩

/-- a rune beyond ASCII is none of the two -/
theorem irune_high (r : Int) (w : World) (h0 : 128 ≤ r) (h1 : r ≤ 2147483647) :
    Calls Tryd.prog 42 #[.string ⟨#[0, 47]⟩, .int .i32 r] w fun e w' => e = .returned (.int .i64 (-1)) ∧ Below w.heap.size w w' := by
  have hr0 : (0 : Int) ≤ r := by omega
  have hr1 : ¬ r < 128 := by omega
  by_cases he : r = 65533
  · subst he
    have hn0 := fun ty => run_next_ascii (P := Tryd.prog) w ⟨#[0, 47]⟩ 0 ty (by decide) (by decide)
    have hn1 := fun ty => run_next_ascii (P := Tryd.prog) w ⟨#[0, 47]⟩ 1 ty (by decide) (by decide)
    have hn2 := fun ty => run_next_end (P := Tryd.prog) w ⟨#[0, 47]⟩ 2 ty (by decide)
    go_enter Tryd.func42, Tryd.ntmps42
    go_wp2_with fail
    go_rounds 3
    go_ret
    exact ⟨rfl, (Below.refl _ _).alloc (Nat.le_refl _) _⟩
  · have hq : (r == 65533) = false := by simpa using he
    cases hv : Lib.validRune r with
    | false =>
      have HV := Lib.hid (Tryd.utf8_ValidRune r w)
      rw [hv] at HV
      clear hv
      go_enter Tryd.func42, Tryd.ntmps42
      go_wp2_with fail
      refine HV.out.mono ?_
      rintro e w1 ⟨rfl, hw⟩
      subst hw
      go_wp2_with fail
      go_ret
      exact ⟨rfl, Below.refl _ _⟩
    | true =>
      have HV := Lib.hid (Tryd.utf8_ValidRune r w)
      rw [hv] at HV
      have hvv : Utf8.valid r = true := by
        rw [Lib.validRune, decide_eq_true_iff] at hv
        simp only [Utf8.valid, Bool.or_eq_true, Bool.and_eq_true, decide_eq_true_eq]
        omega
      obtain ⟨e1, e2, e3⟩ := encode_facts r hvv h0
      have hcv : ∀ w, (convert 21 9 (.int .i32 r)).run Tryd.prog w = .ok (.string (Utf8.encode r)) w := fun w => run_convert_int_string w _ _ _ r (by rw [Tryd.underlying21]; rfl) Tryd.underlying9
      generalize Utf8.encode r = E at *
      go_enter Tryd.func42, Tryd.ntmps42
      go_wp2_with fail
      refine HV.out.mono ?_
      rintro e w1 ⟨rfl, hw⟩
      subst hw
      go_wp2_with fail
      by_cases hs3 : 3 ≤ E.size
      · have q1 : ¬ ((E.size : Int) - 1 < 2) := by omega
        have q2 : (E.size : Int) ≤ 4 := by omega
        clear e1 e2 e3
        go_step3
        go_wp2_with fail
        refine wp_loop_rounds 1 ?_
        rw [rounds_succ]
        go_wp2_with fail
        rw [Exit.noGoto_ret]
        go_ret
        exact ⟨rfl, Below.refl _ _⟩
      · have q1 : E.size = 2 := by omega
        have q0 : (E.size : Int) = 2 := by omega
        obtain ⟨x, hx⟩ : ∃ x : UInt8, ∀ w, (Instr.index 9 (.string E) (.int .i64 1)).run Tryd.prog w = .ok (.int .u8 (x.toNat : Int)) w ∧ 128 ≤ x.toNat := by
          refine ⟨E[1]'(by omega), fun w => ⟨?_, ?_⟩⟩
          · simp [Instr.index, go_sem, Tryd.underlying9, q1, asIntOf]
          · have := e3 (by omega)
            simp only [q1] at this
            exact this
        have hx1 := fun w => (hx w).1
        have hy1 : ∀ w, (Instr.index 9 (.string ⟨#[0, 47]⟩) (.int .i64 1)).run Tryd.prog w = .ok (.int .u8 47) w := fun w => by kernel_rfl
        have hx2 := (hx w1).2
        have hx3 : ((47 : Int) != (x.toNat : Int)) = true := by rw [bne_iff_ne]; omega
        clear e1 e2 e3 hx hs3 q1
        go_step3
        go_wp2_with fail
        refine wp_loop_rounds 1 ?_
        rw [rounds_succ]
        go_wp2_with fail
        go_step3
        go_wp2_with fail
        go_quiet (fail)
        go_wp2_with fail
        go_region_with (go_at_call 53; refine (Tryd.strings_IndexByte _ _ _).mono ?_; rintro e w' ⟨rfl, hw⟩; subst hw)
        all_goals go_wp2_with fail
        all_goals rw [Exit.noGoto_ret]
        all_goals go_wp2_with fail
        all_goals rw [Exit.noGoto_ret]
        all_goals go_ret
        all_goals exact ⟨rfl, by first | exact below_drewN (Below.refl _ _) nq | exact (below_drewN (Below.refl _ _) nq).drew⟩

/-- strings.IndexAny: a text of at most 8 bytes -/
theorem iany_short (s : ByteArray) (w : World) (h8 : s.size ≤ 8) :
    Calls Tryd.prog 35 #[.string s, .string ⟨#[0, 47]⟩] w fun e w' => e = .returned (.int .i64 (Lib.indexAny s.data.toList [0, 47])) ∧ Below w.heap.size w w' := by
  have h8z : decide ((8 : Int) < (s.size : Int)) = false := decide_eq_false (by omega)
  have HS := Lib.hid (Tryd.strings_shouldUseASCIISet (s.size : Int) w)
  rw [h8z] at HS
  go_enter Tryd.func35, Tryd.ntmps35
  go_wp2_with fail
  refine HS.out.mono ?_
  rintro e w1 ⟨rfl, hw⟩
  subst hw
  go_wp2_with fail
  go_loopw [9, 10] (fun _ _ wr => ∃ i : Nat, i ≤ s.size ∧ wr.iterPos w1.heap.size = i ∧ Hid (wr.heap[w1.heap.size]? = some (.stringIter s i) ∧ Below w1.heap.size w1 wr ∧ Lib.NoAny s.data.toList [0, 47] i)) (fun _ _ wr => s.size - wr.iterPos w1.heap.size)
  case atStart => exact ⟨0, by omega, by simp [World.iterPos, World.iter_heap], World.iter_heap _ _ _, (Below.refl _ _).alloc (Nat.le_refl _) _, Lib.NoAny.zero _ _⟩
  case round =>
    obtain ⟨i, hi, hip, HG⟩ := hrel
    by_cases hlt : i < s.size
    · obtain ⟨W2, hnx, hh2, hb2⟩ := next_any (P := Tryd.prog) wr w1.heap.size s i HG.out.1 hlt
      obtain ⟨x, hx⟩ : ∃ x : UInt8, s[i]'hlt = x := ⟨_, rfl⟩
      have hxl : s.data.toList[i]? = some x := by rw [← hx]; exact Lib.data_getElem? s i hlt
      have hip2 : W2.iterPos w1.heap.size = i + (Utf8.decode s i).2 := by simp [World.iterPos, hh2]
      have hB2 : Below w1.heap.size w1 W2 := HG.out.2.1.trans hb2
      by_cases hx128 : x.toNat < 128
      · have hdec := decode_ascii s i hlt (by rw [hx]; exact hx128)
        rw [hdec] at hnx hh2 hip2
        rw [hx] at hnx
        simp only at hnx hh2 hip2
        have HR := Lib.hid (Tryd.strings_IndexRune_ascii ⟨#[0, 47]⟩ (x.toNat : Int) W2 (by omega) (by omega))
        have hback : ((x.toNat : Int)).toNat.toUInt8 = x := by simp
        rw [hback] at HR
        have hcon := Lib.contains_iff_indexByte [0, 47] x
        have HX := Lib.hid (And.intro hxl (And.intro hB2 (And.intro hh2 hip2)))
        clear hxl hB2 hh2 hip2 hx hdec hback hb2
        cases hin : ([0, 47] : List UInt8).contains x with
        | false =>
          rw [hin] at hcon
          have hlt2 : ¬ ((0 : Int) ≤ Lib.indexByte [0, 47] x) := of_decide_eq_false hcon.symm
          have HN := Lib.hid (HG.out.2.2.succ HX.out.1 hin)
          clear hcon hin
          go_wp2_with fail
          refine HR.out.mono ?_
          rintro e w3 ⟨rfl, hw⟩
          subst hw
          go_wp2_with fail
          go_roundw
          case rel => exact ⟨i + 1, by omega, HX.out.2.2.2, HX.out.2.2.1, HX.out.2.1, HN.out⟩
          case measure => have := HX.out.2.2.2; omega
        | true =>
          rw [hin] at hcon
          have hge : (0 : Int) ≤ Lib.indexByte [0, 47] x := of_decide_eq_true hcon.symm
          have HN := Lib.hid (Lib.indexAny_hit HG.out.2.2 HX.out.1 hin)
          clear hcon hin
          go_wp2_with fail
          refine HR.out.mono ?_
          rintro e w3 ⟨rfl, hw⟩
          subst hw
          go_wp2_with fail
          go_ret
          exact ⟨by rw [HN.out]; rfl, HX.out.2.1⟩
      · obtain ⟨hd1, hd2⟩ := decode_high s i hlt (by rw [hx]; omega)
        have hd3 := decode_le s i
        have hd5 := decode_fit s i hlt (by rw [hx]; omega)
        have hd4 := decode_skip s i hlt (by rw [hx]; omega)
        have HN : Hid (Lib.NoAny s.data.toList [0, 47] (i + (Utf8.decode s i).2)) := by
          intro j b hj hb
          by_cases c : j < i
          · exact HG.out.2.2 j b c hb
          · have hjl : j < s.size := by
              have := (List.getElem?_eq_some_iff.1 hb).1
              rw [← Lib.size_eq] at this
              exact this
            have h5 := hd4 (j - i) (by omega)
            rw [show i + (j - i) = j + 0 from by omega, get_at s j hjl] at h5
            have h6 := Lib.data_getElem? s j hjl
            rw [hb] at h6
            injection h6 with h6
            rw [← h6] at h5
            have h7 : b ≠ 0 := fun e => by rw [e] at h5; simp at h5
            have h8 : b ≠ 47 := fun e => by rw [e] at h5; simp at h5
            simp [h7, h8]
        generalize hdd : Utf8.decode s i = dd at *
        obtain ⟨r, n⟩ := dd
        simp only at hnx hh2 hip2 hd1 hd2 hd3 hd5 HN
        have hr1 : (128 : Int) ≤ (r : Int) := by omega
        have hr2 : (r : Int) ≤ 2147483647 := by omega
        have HR := Lib.hid (irune_high (r : Int) W2 hr1 hr2)
        have HX := Lib.hid (And.intro hB2 (And.intro hh2 hip2))
        have hk2 : w1.heap.size < W2.heap.size := (Array.getElem?_eq_some_iff.1 hh2).1
        clear hB2 hh2 hip2 hx hdd hb2 hd4 hd1 hd3 hxl
        go_wp2_with fail
        refine HR.out.mono ?_
        rintro e w3 ⟨rfl, hb3⟩
        have hh3 : w3.heap[w1.heap.size]? = some (.stringIter s (i + n)) := (hb3.block _ hk2).trans HX.out.2.1
        have HX3 := Lib.hid (And.intro hh3 (And.intro (below_chain HX.out.1 hb3 HX.out.1.size) (show w3.iterPos w1.heap.size = i + n by simp [World.iterPos, hh3])))
        clear hh3 hb3
        go_wp2_with fail
        go_roundw
        case rel => exact ⟨i + n, hd5, HX3.out.2.2, HX3.out.1, HX3.out.2.1, HN.out⟩
        case measure => have := HX3.out.2.2; omega
    · obtain rfl : i = s.size := by omega
      have hnx := next_end (P := Tryd.prog) wr w1.heap.size s s.size HG.out.1 hlt
      have HN := Lib.hid (Lib.indexAny_none (by rw [← Lib.size_eq]; exact HG.out.2.2))
      go_wp2_with fail
      go_ret
      exact ⟨by rw [HN.out]; rfl, HG.out.2.1⟩

theorem any_iff (chars : List UInt8) : ∀ l : List UInt8, decide (0 ≤ Lib.indexAny l chars) = l.any fun b => chars.contains b
  | [] => rfl
  | b :: l => by
    have ih := any_iff chars l
    have hg := Lib.indexAny_ge chars l
    rw [List.any_cons, Lib.indexAny]
    split
    · rename_i hb
      rw [hb]; rfl
    · rename_i hb
      rw [show chars.contains b = false from by simpa using hb, Bool.false_or, ← ih]
      split
      · rename_i h1
        rw [beq_iff_eq] at h1
        rw [h1]
      · rename_i h1
        exact decide_eq_decide.2 (by
          have : Lib.indexAny l chars ≠ -1 := by simpa using h1
          omega)

/-- a byte that no name has lies in the text -/
def badP (l : List UInt8) : Bool := l.any fun b => b == 0 || b == 47

theorem bad_any (l : List UInt8) : (l.any fun b => ([0, 47] : List UInt8).contains b) = badP l := by
  rw [badP]
  congr 1
  funext b
  rw [Bool.eq_iff_iff]
  simp

theorem nmOk_bad (l : List UInt8) : nmOk l = (decide (1 ≤ l.length) && (decide (l.length ≤ 32) && !badP l)) := by
  rw [nmOk, badP]
  congr 2
  induction l with
  | nil => rfl
  | cons b l ih =>
    rw [List.all_cons, List.any_cons, ih, Bool.not_or, Bool.not_or]
    rfl

theorem info_set : (Tryd.prog.info? 62).map (fun i => (i.zero, i.size)) = some (some (.agg (Array.replicate 256 (.bool false))), 256) := by kernel_rfl

theorem iany (s : ByteArray) (w : World) (hs : s.size < 4294967281) :
    Calls Tryd.prog 35 #[.string s, .string ⟨#[0, 47]⟩] w fun e w' => e = .returned (.int .i64 (Lib.indexAny s.data.toList [0, 47])) ∧ Below w.heap.size w w' := by
  by_cases h8 : s.size ≤ 8
  · exact iany_short s w h8
  · refine (Tryd.strings_IndexAny_long (Go.zero_of_info info_set).1 s ⟨#[0, 47]⟩ w (by decide) (by omega) hs (by decide) (fun j b hb => ?_)).mono fun e w' ⟨h1, h2⟩ => ⟨h1, ?_⟩
    · have hm := List.mem_of_getElem? hb
      simp at hm
      rcases hm with rfl | rfl <;> decide
    · rw [h2]
      exact ((Below.refl _ _).alloc (Nat.le_refl _) _).alloc (by simp) _

theorem cany (s : ByteArray) (w : World) (hs : s.size < 4294967281) :
    Calls Tryd.prog 27 #[.string s, .string ⟨#[0, 47]⟩] w fun e w' => e = .returned (.bool (badP (bts s))) ∧ Below w.heap.size w w' := by
  have HC := Lib.hid (iany s w hs)
  have HB := Lib.hid ((any_iff [0, 47] (bts s)).trans (bad_any (bts s)))
  go_enter Tryd.func27, Tryd.ntmps27
  go_wp2_with fail
  refine HC.out.mono ?_
  rintro e w1 ⟨rfl, hb⟩
  go_wp2_with fail
  go_ret
  exact ⟨by rw [← HB.out]; rfl, hb⟩

end Go.Proofs.YtlhkfpenfbakkaaDoor
