/- A part of a proof. -/
import Derived.Test.YtppdihpobokfnaaGreatDoorGBase
import Derived.Test.YtppdihpobokfnaaGreatDoorRows
import Derived.Test.YtppdihpobokfnaaGreatDoorShelf
import Derived.Laws.Runes
import Derived.Deep.LoopGhost
import Derived.WalkMore
import Derived.ScopeJumps
import Derived.WalkLawsBesides
import Derived.Handy
import Derived.BigQuiet
import Derived.Deep.QuietTactic
import Derived.IntWalk
import Derived.Lib.IndexLaws
set_option linter.unusedVariables false
set_option linter.unusedSimpArgs false
set_option maxRecDepth 100000
namespace Go.Proofs.YtppdihpobokfnaaGreatDoor
open Go.RowKit Go.Joins
theorem irune_high (r : Int) (w : World) (h0 : 128 ≤ r) (h1 : r ≤ 2147483647) :
  Calls Tryz.prog 181 #[.string ⟨#[0, 47]⟩, .int .i32 r] w fun e w' => e = .returned (.int .i64 (-1)) ∧ Below w.heap.size w w' := by
 have hr0 : (0 : Int) ≤ r := by omega
 have hr1 : ¬ r < 128 := by omega
 by_cases he : r = 65533
 · subst he
   have hn0 := fun ty => run_next_ascii (P := Tryz.prog) w ⟨#[0, 47]⟩ 0 ty (by decide) (by decide)
   have hn1 := fun ty => run_next_ascii (P := Tryz.prog) w ⟨#[0, 47]⟩ 1 ty (by decide) (by decide)
   have hn2 := fun ty => run_next_end (P := Tryz.prog) w ⟨#[0, 47]⟩ 2 ty (by decide)
   go_enter Tryz.func181, Tryz.ntmps181
   go_wp2_with fail
   go_rounds 3
   go_ret
   exact ⟨rfl, (Below.refl _ _).alloc (Nat.le_refl _) _⟩
 · have hq : (r == 65533) = false := by simpa using he
   cases hv : Lib.validRune r with
   | false =>
    have HV := Lh (Tryz.utf8_ValidRune r w)
    rw [hv] at HV
    clear hv
    go_enter Tryz.func181, Tryz.ntmps181
    go_wp2_with fail
    refine HV.out.mono ?_
    rintro e w1 ⟨rfl, hw⟩
    subst hw
    go_wp2_with fail
    go_ret
    exact ⟨rfl, Below.refl _ _⟩
   | true =>
    have HV := Lh (Tryz.utf8_ValidRune r w)
    rw [hv] at HV
    have hvv : Utf8.valid r = true := by
     rw [Lib.validRune, decide_eq_true_iff] at hv
     simp only [Utf8.valid, Bool.or_eq_true, Bool.and_eq_true, decide_eq_true_eq]
     omega
    obtain ⟨e1, e2, e3⟩ := encode_facts r hvv h0
    have hcv : ∀ w, (convert 21 9 (.int .i32 r)).run Tryz.prog w = .ok (.string (Utf8.encode r)) w := fun w => run_convert_int_string w _ _ _ r (by rw [Tryz.underlying21]; rfl) Tryz.underlying9
    generalize Utf8.encode r = E at *
    go_enter Tryz.func181, Tryz.ntmps181
    go_wp2_with fail
    refine HV.out.mono ?_
    rintro e w1 ⟨rfl, hw⟩
    subst hw
    go_wp2_with fail
    by_cases hs3 : 3 ≤ E.size
    · have q1 : ¬ ((E.size : Int) - 1 < 2) := by omega
      have q2 : (E.size : Int) ≤ 4 := by omega
      clear e1 e2 e3
      go_step3
      go_wp2_with fail
      refine wp_loop_rounds 1 ?_
      rw [rounds_succ]
      go_wp2_with fail
      rw [Exit.noGoto_ret]
      go_ret
      exact ⟨rfl, Below.refl _ _⟩
    · have q1 : E.size = 2 := by omega
      have q0 : (E.size : Int) = 2 := by omega
      obtain ⟨x, hx⟩ : ∃ x : UInt8, ∀ w, (Instr.index 9 (.string E) (.int .i64 1)).run Tryz.prog w = .ok (.int .u8 (x.toNat : Int)) w ∧ 128 ≤ x.toNat := by
       refine ⟨E[1]'(by omega), fun w => ⟨?_, ?_⟩⟩
       · simp [Instr.index, go_sem, Tryz.underlying9, q1, asIntOf]
       · have := e3 (by omega)
         simp only [q1] at this
         exact this
      have hx1 := fun w => (hx w).1
      have hy1 : ∀ w, (Instr.index 9 (.string ⟨#[0, 47]⟩) (.int .i64 1)).run Tryz.prog w = .ok (.int .u8 47) w := fun w => by kernel_rfl
      have hx2 := (hx w1).2
      have hx3 : ((47 : Int) != (x.toNat : Int)) = true := by rw [bne_iff_ne]; omega
      clear e1 e2 e3 hx hs3 q1
      go_step3
      go_wp2_with fail
      refine wp_loop_rounds 1 ?_
      rw [rounds_succ]
      go_wp2_with fail
      go_step3
      go_wp2_with fail
      go_quiet (fail)
      go_wp2_with fail
      go_region_with (go_at_call 195; refine (Tryz.strings_IndexByte _ _ _).mono ?_; rintro e w' ⟨rfl, hw⟩; subst hw)
      all_goals go_wp2_with fail
      all_goals rw [Exit.noGoto_ret]
      all_goals go_wp2_with fail
      all_goals rw [Exit.noGoto_ret]
      all_goals go_ret
      all_goals exact ⟨rfl, by first | exact below_drewN (Below.refl _ _) nq | exact (below_drewN (Below.refl _ _) nq).drew⟩
theorem iany_short (s : ByteArray) (w : World) (h8 : s.size ≤ 8) :
  Calls Tryz.prog 161 #[.string s, .string ⟨#[0, 47]⟩] w fun e w' => e = .returned (.int .i64 (Lib.indexAny s.data.toList [0, 47])) ∧ Below w.heap.size w w' := by
 have h8z : decide ((8 : Int) < (s.size : Int)) = false := decide_eq_false (by omega)
 have HS := Lh (Tryz.strings_shouldUseASCIISet (s.size : Int) w)
 rw [h8z] at HS
 go_enter Tryz.func161, Tryz.ntmps161
 go_wp2_with fail
 refine HS.out.mono ?_
 rintro e w1 ⟨rfl, hw⟩
 subst hw
 go_wp2_with fail
 go_loopw [9, 10] (fun _ _ wr => ∃ i : Nat, i ≤ s.size ∧ wr.iterPos w1.heap.size = i ∧ Hid (wr.heap[w1.heap.size]? = some (.stringIter s i) ∧ Below w1.heap.size w1 wr ∧ Lib.NoAny s.data.toList [0, 47] i)) (fun _ _ wr => s.size - wr.iterPos w1.heap.size)
 case atStart => exact ⟨0, by omega, by simp [World.iterPos, World.iter_heap], World.iter_heap _ _ _, (Below.refl _ _).alloc (Nat.le_refl _) _, Lib.NoAny.zero _ _⟩
 case round =>
  obtain ⟨i, hi, hip, HG⟩ := hrel
  by_cases hlt : i < s.size
  · obtain ⟨W2, hnx, hh2, hb2⟩ := next_any (P := Tryz.prog) wr w1.heap.size s i HG.out.1 hlt
    obtain ⟨x, hx⟩ : ∃ x : UInt8, s[i]'hlt = x := ⟨_, rfl⟩
    have hxl : s.data.toList[i]? = some x := by rw [← hx]; exact Lib.data_getElem? s i hlt
    have hip2 : W2.iterPos w1.heap.size = i + (Utf8.decode s i).2 := by simp [World.iterPos, hh2]
    have hB2 : Below w1.heap.size w1 W2 := HG.out.2.1.trans hb2
    by_cases hx128 : x.toNat < 128
    · have hdec := decode_ascii s i hlt (by rw [hx]; exact hx128)
      rw [hdec] at hnx hh2 hip2
      rw [hx] at hnx
      simp only at hnx hh2 hip2
      have HR := Lh (Tryz.strings_IndexRune_ascii ⟨#[0, 47]⟩ (x.toNat : Int) W2 (by omega) (by omega))
      have hback : ((x.toNat : Int)).toNat.toUInt8 = x := by simp
      rw [hback] at HR
      have hcon := Lib.contains_iff_indexByte [0, 47] x
      have HX := Lh (And.intro hxl (And.intro hB2 (And.intro hh2 hip2)))
      clear hxl hB2 hh2 hip2 hx hdec hback hb2
      cases hin : ([0, 47] : List UInt8).contains x with
      | false =>
       rw [hin] at hcon
       have hlt2 : ¬ ((0 : Int) ≤ Lib.indexByte [0, 47] x) := of_decide_eq_false hcon.symm
       have HN := Lh (HG.out.2.2.succ HX.out.1 hin)
       clear hcon hin
       go_wp2_with fail
       refine HR.out.mono ?_
       rintro e w3 ⟨rfl, hw⟩
       subst hw
       go_wp2_with fail
       go_roundw
       case rel => exact ⟨i + 1, by omega, HX.out.2.2.2, HX.out.2.2.1, HX.out.2.1, HN.out⟩
       case measure => have := HX.out.2.2.2; omega
      | true =>
       rw [hin] at hcon
       have hge : (0 : Int) ≤ Lib.indexByte [0, 47] x := of_decide_eq_true hcon.symm
       have HN := Lh (Lib.indexAny_hit HG.out.2.2 HX.out.1 hin)
       clear hcon hin
       go_wp2_with fail
       refine HR.out.mono ?_
       rintro e w3 ⟨rfl, hw⟩
       subst hw
       go_wp2_with fail
       go_ret
       exact ⟨by rw [HN.out]; rfl, HX.out.2.1⟩
    · obtain ⟨hd1, hd2⟩ := decode_high s i hlt (by rw [hx]; omega)
      have hd3 := decode_le s i
      have hd5 := decode_fit s i hlt (by rw [hx]; omega)
      have hd4 := decode_skip s i hlt (by rw [hx]; omega)
      have HN : Hid (Lib.NoAny s.data.toList [0, 47] (i + (Utf8.decode s i).2)) := by
       intro j b hj hb
       by_cases c : j < i
       · exact HG.out.2.2 j b c hb
       · have hjl : j < s.size := by
          have := (List.getElem?_eq_some_iff.1 hb).1
          rw [← Lib.size_eq] at this
          exact this
         have h5 := hd4 (j - i) (by omega)
         rw [show i + (j - i) = j + 0 from by omega, get_at s j hjl] at h5
         have h6 := Lib.data_getElem? s j hjl
         rw [hb] at h6
         injection h6 with h6
         rw [← h6] at h5
         have h7 : b ≠ 0 := fun e => by rw [e] at h5; simp at h5
         have h8 : b ≠ 47 := fun e => by rw [e] at h5; simp at h5
         simp [h7, h8]
      generalize hdd : Utf8.decode s i = dd at *
      obtain ⟨r, n⟩ := dd
      simp only at hnx hh2 hip2 hd1 hd2 hd3 hd5 HN
      have hr1 : (128 : Int) ≤ (r : Int) := by omega
      have hr2 : (r : Int) ≤ 2147483647 := by omega
      have HR := Lh (irune_high (r : Int) W2 hr1 hr2)
      have HX := Lh (And.intro hB2 (And.intro hh2 hip2))
      have hk2 : w1.heap.size < W2.heap.size := (Array.getElem?_eq_some_iff.1 hh2).1
      clear hB2 hh2 hip2 hx hdd hb2 hd4 hd1 hd3 hxl
      go_wp2_with fail
      refine HR.out.mono ?_
      rintro e w3 ⟨rfl, hb3⟩
      have hh3 : w3.heap[w1.heap.size]? = some (.stringIter s (i + n)) := (hb3.block _ hk2).trans HX.out.2.1
      have HX3 := Lh (And.intro hh3 (And.intro (below_chain HX.out.1 hb3 HX.out.1.size) (show w3.iterPos w1.heap.size = i + n by simp [World.iterPos, hh3])))
      clear hh3 hb3
      go_wp2_with fail
      go_roundw
      case rel => exact ⟨i + n, hd5, HX3.out.2.2, HX3.out.1, HX3.out.2.1, HN.out⟩
      case measure => have := HX3.out.2.2; omega
  · obtain rfl : i = s.size := by omega
    have hnx := next_end (P := Tryz.prog) wr w1.heap.size s s.size HG.out.1 hlt
    have HN := Lh (Lib.indexAny_none (by rw [← Lib.size_eq]; exact HG.out.2.2))
    go_wp2_with fail
    go_ret
    exact ⟨by rw [HN.out]; rfl, HG.out.2.1⟩
theorem any_iff (chars : List UInt8) : ∀ l : List UInt8, decide (0 ≤ Lib.indexAny l chars) = l.any fun b => chars.contains b
 | [] => rfl
 | b :: l => by
  have ih := any_iff chars l
  have hg := Lib.indexAny_ge chars l
  rw [List.any_cons, Lib.indexAny]
  split
  · rename_i hb
    rw [hb]; rfl
  · rename_i hb
    rw [show chars.contains b = false from by simpa using hb, Bool.false_or, ← ih]
    split
    · rename_i h1
      rw [beq_iff_eq] at h1
      rw [h1]
    · rename_i h1
      exact decide_eq_decide.2 (by
       have : Lib.indexAny l chars ≠ -1 := by simpa using h1
       omega)
def badP (l : List UInt8) : Bool := l.any fun b => b == 0 || b == 47
theorem bad_any (l : List UInt8) : (l.any fun b => ([0, 47] : List UInt8).contains b) = badP l := by
 rw [badP]
 congr 1
 funext b
 rw [Bool.eq_iff_iff]
 simp
theorem nmOk_bad (l : List UInt8) : nmOk l = (decide (1 ≤ l.length) && (decide (l.length ≤ 32) && !badP l)) := by
 rw [nmOk, badP]
 congr 2
 induction l with
 | nil => rfl
 | cons b l ih =>
  rw [List.all_cons, List.any_cons, ih, Bool.not_or, Bool.not_or]
  rfl
theorem info_set : (Tryz.prog.info? 201).map (fun i => (i.zero, i.size)) = some (some (.agg (Array.replicate 256 (.bool false))), 256) := by kernel_rfl
theorem iany (s : ByteArray) (w : World) (hs : s.size < 4294967281) :
  Calls Tryz.prog 161 #[.string s, .string ⟨#[0, 47]⟩] w fun e w' => e = .returned (.int .i64 (Lib.indexAny s.data.toList [0, 47])) ∧ Below w.heap.size w w' := by
 by_cases h8 : s.size ≤ 8
 · exact iany_short s w h8
 · refine (Tryz.strings_IndexAny_long (Go.zero_of_info info_set).1 s ⟨#[0, 47]⟩ w (by decide) (by omega) hs (by decide) (fun j b hb => ?_)).mono fun e w' ⟨h1, h2⟩ => ⟨h1, ?_⟩
   · have hm := List.mem_of_getElem? hb
     simp at hm
     rcases hm with rfl | rfl <;> decide
   · rw [h2]
     exact ((Below.refl _ _).alloc (Nat.le_refl _) _).alloc (by simp) _
theorem cany (s : ByteArray) (w : World) (hs : s.size < 4294967281) :
  Calls Tryz.prog 142 #[.string s, .string ⟨#[0, 47]⟩] w fun e w' => e = .returned (.bool (badP (bts s))) ∧ Below w.heap.size w w' := by
 have HC := Lh (iany s w hs)
 have HB := Lh ((any_iff [0, 47] (bts s)).trans (bad_any (bts s)))
 go_enter Tryz.func142, Tryz.ntmps142
 go_wp2_with fail
 refine HC.out.mono ?_
 rintro e w1 ⟨rfl, hb⟩
 go_wp2_with fail
 go_ret
 exact ⟨by rw [← HB.out]; rfl, hb⟩
end Go.Proofs.YtppdihpobokfnaaGreatDoor
set_option linter.unusedVariables false
set_option linter.unusedSimpArgs false
set_option maxRecDepth 100000
namespace Go.Proofs.YtppdihpobokfnaaGreatDoor
open Go.RowKit Go.Joins
theorem emp_iff (s : ByteArray) : s.toList.isEmpty = decide (s.size = 0) := by
 rw [Lib.toList_data, Bool.eq_iff_iff, List.isEmpty_iff, decide_eq_true_iff, ← List.length_eq_zero_iff]
 simp
theorem odd_any (s : ByteArray) (w : World) : Calls Tryz.prog 125 #[.string s] w fun e w' => e = .returned (.bool (!nmOk (bts s))) ∧ Below w.heap.size w w' := by
 have he := emp_iff s
 have B0 : Below w.heap.size w w := Below.refl _ _
 by_cases h1 : s.size = 0
 · rw [decide_eq_true h1] at he
   have HN := Lh (show nmOk (bts s) = false from by rw [nmOk_bad, bts_length, decide_eq_false (by omega)]; rfl)
   clear h1
   go_enter Tryz.func125, Tryz.ntmps125
   go_wp2_with fail
   go_ret
   exact ⟨by rw [HN.out]; rfl, B0⟩
 rw [decide_eq_false h1] at he
 by_cases h2 : 32 < s.size
 · have h2' : (32 : Int) < (s.size : Int) := by omega
   have HN := Lh (show nmOk (bts s) = false from by rw [nmOk_bad, bts_length, decide_eq_false (show ¬ s.size ≤ 32 by omega)]; simp)
   clear h1 h2
   go_enter Tryz.func125, Tryz.ntmps125
   go_wp2_with fail
   go_ret
   exact ⟨by rw [HN.out]; rfl, B0⟩
 have h2' : ¬ (32 : Int) < (s.size : Int) := by omega
 have HA := Lh (cany s w (by omega))
 have HN := Lh (show nmOk (bts s) = !badP (bts s) from by rw [nmOk_bad, bts_length, decide_eq_true (show 1 ≤ s.size by omega), decide_eq_true (show s.size ≤ 32 by omega)]; simp)
 clear h1 h2
 generalize badP (bts s) = b at *
 go_enter Tryz.func125, Tryz.ntmps125
 go_wp2_with fail
 refine HA.out.mono ?_
 rintro e w1 ⟨rfl, hb1⟩
 go_wp2_with fail
 go_ret
 exact ⟨by rw [HN.out]; simp, hb1⟩
def strs (l : List ByteArray) : List Value := l.map Value.string
theorem strs_len (l : List ByteArray) : (strs l).length = l.length := by simp [strs]
theorem strs_get {l : List ByteArray} {k : Nat} {x : ByteArray} (h : l[k]? = some x) : (strs l)[k]? = some (.string x) := by simp [strs, h]
theorem str_cell {w : World} {a : Option Addr} {l : List ByteArray} {k : Nat} {x : ByteArray} (h : ValS w a (strs l)) (hx : l[k]? = some x) : ∃ P o, a = some ⟨P, o, none⟩ ∧ P < w.heap.size ∧ w.cell? ⟨P, o + k, none⟩ = some (.string x) := by
 rcases h with h | ⟨B, o, rfl, h1, h2⟩
 · have := (List.getElem?_eq_some_iff.1 hx).1
   have h3 := strs_len l
   rw [h] at h3
   simp at h3
   omega
 · exact ⟨B, o, rfl, h1, h2 k _ (strs_get hx)⟩
def oddB (s : ByteArray) : Bool := !nmOk (bts s)
def anyOdd (l : List ByteArray) : Bool := l.any oddB
set_option maxHeartbeats 1000000 in
theorem index_odd (a : Option Addr) (cap : Nat) (l : List ByteArray) (w : World) (hV : ValS w a (strs l)) (hl : l.length ≤ 1000000) :
  Calls Tryz.prog 141 #[.slice a l.length cap, .func (.func 125) #[] #[]] w fun e w' => (∃ i : Int, e = .returned (.int .i64 i) ∧ (0 ≤ i ↔ anyOdd l = true)) ∧ Below w.heap.size w w' := by
 have HV := Lh hV
 have hl' : (l.length : Int) ≤ 1000000 := by omega
 clear hV
 go_enter Tryz.func141, Tryz.ntmps141
 go_wp2_with fail
 go_loopw [5, 8] (fun _ jj wr => ∃ k : Nat, k ≤ l.length ∧ jj = .int .i64 k ∧ Hid (∀ j < k, ∃ s, l[j]? = some s ∧ oddB s = false) ∧ Below w.heap.size w wr) (fun _ jj _ => l.length - (intOf jj).toNat)
 case atStart => exact ⟨0, by omega, rfl, fun j hj => by omega, Below.refl _ _⟩
 case round =>
  obtain ⟨k, hk, rfl, HA, Bw⟩ := hrel
  by_cases hlt : k < l.length
  · obtain ⟨s, hs⟩ : ∃ s, l[k]? = some s := ⟨_, List.getElem?_eq_getElem hlt⟩
    obtain ⟨P, o, rfl, hP, d0⟩ := str_cell (HV.out.below Bw (Nat.le_refl _)) hs
    have HS := Lh hs
    have h1 : (k : Int) < (l.length : Int) := by omega
    have h2 : (0 : Int) ≤ (k : Int) := by omega
    have HF := Lh (odd_any s wr)
    change Hid (Calls _ _ _ _ fun e w' => e = .returned (.bool (oddB s)) ∧ _) at HF
    clear hs
    cases hp : oddB s with
    | true =>
     rw [hp] at HF
     have HF2 : Hid (anyOdd l = true) := by
      show l.any oddB = _
      rw [List.any_eq_true]
      exact ⟨s, List.mem_of_getElem? HS.out, hp⟩
     clear hp
     go_wp2_with fail
     refine HF.out.mono ?_
     rintro e w1 ⟨rfl, hb1⟩
     have B1 := below_chain Bw hb1 Bw.size
     go_wp2_with fail
     go_ret
     exact ⟨⟨k, rfl, by rw [HF2.out]; simp⟩, B1⟩
    | false =>
     rw [hp] at HF
     have HA2 : Hid (∀ j < k + 1, ∃ s, l[j]? = some s ∧ oddB s = false) := by
      intro j hj
      by_cases c : j < k
      · exact HA.out j c
      · obtain rfl : j = k := by omega
        exact ⟨s, HS.out, hp⟩
     clear hp
     go_wp2_with fail
     refine HF.out.mono ?_
     rintro e w1 ⟨rfl, hb1⟩
     have B1 := below_chain Bw hb1 Bw.size
     clear d0 hb1
     go_wp2_with fail
     go_roundw
     case rel => exact ⟨k + 1, by omega, by go_num, HA2, B1⟩
     case measure => simp [intOf]; omega
  · obtain rfl : k = l.length := by omega
    have h1 : ¬ (l.length : Int) < (l.length : Int) := by omega
    have HF2 : Hid (anyOdd l = false) := by
     show l.any oddB = _
     rw [List.any_eq_false]
     intro x hx
     obtain ⟨j, hj, rfl⟩ := List.getElem_of_mem hx
     obtain ⟨s', h1', h2'⟩ := HA.out j hj
     rw [(List.getElem_eq_iff _).2 h1', h2']; simp
    go_wp2_with fail
    go_ret
    exact ⟨⟨-1, rfl, by rw [HF2.out]; simp⟩, Bw⟩
theorem contains_odd (a : Option Addr) (cap : Nat) (l : List ByteArray) (w : World) (hV : ValS w a (strs l)) (hl : l.length ≤ 1000000) :
  Calls Tryz.prog 124 #[.slice a l.length cap, .func (.func 125) #[] #[]] w fun e w' => e = .returned (.bool (!(l.all fun s => nmOk (bts s)))) ∧ Below w.heap.size w w' := by
 have HI := Lh (index_odd a cap l w hV hl)
 have hr : (!(l.all fun s => nmOk (bts s))) = anyOdd l := by
  unfold anyOdd
  rw [List.all_eq_not_any_not, Bool.not_not]
  rfl
 rw [hr]
 clear hr hV
 go_enter Tryz.func124, Tryz.ntmps124
 go_wp2_with fail
 refine HI.out.mono ?_
 rintro e w1 ⟨⟨i, rfl, hi⟩, hb⟩
 go_wp2_with fail
 go_ret
 exact ⟨by rw [show anyOdd l = decide (0 ≤ i) from by rw [Bool.eq_iff_iff, decide_eq_true_iff]; exact hi.symm]; first | rfl | simp, hb⟩
end Go.Proofs.YtppdihpobokfnaaGreatDoor
set_option linter.unusedVariables false
set_option linter.unusedSimpArgs false
set_option maxRecDepth 100000
namespace Go.Proofs.YtppdihpobokfnaaGreatDoor
open Go.RowKit Go.Joins
theorem pieces_cut : ∀ {l : List UInt8} {m : Nat}, l[m]? = some 47 → (∀ k, k < m → l[k]? ≠ some 47) → pieces l = l.take m :: pieces (l.drop (m + 1))
 | [], m, h, _ => by simp at h
 | c :: l, 0, h, _ => by
  have : c = 47 := by simpa using h
  rw [pieces, if_pos this]; rfl
 | c :: l, m + 1, h, h2 => by
  have hc : ¬ c = 47 := by
   intro e
   exact h2 0 (by omega) (by simp [e])
  have ih := pieces_cut (l := l) (m := m) (by simpa using h) (fun k hk => by simpa using h2 (k + 1) (by omega))
  rw [pieces, if_neg hc, ih]
  rfl
theorem pieces_one {l : List UInt8} (h : (47 : UInt8) ∉ l) : pieces l = [l] := by
 have := pieces_flat [] l (by intro y hy; simp at hy; subst hy; exact h)
 rw [flat, List.append_nil] at this
 exact this
theorem pieces_len (l : List UInt8) : (pieces l).length = l.count 47 + 1 := by
 induction l with
 | nil => rfl
 | cons c l ih =>
  rw [pieces]
  split
  · rename_i e
    subst e
    rw [List.length_cons, ih, List.count_cons_self]
  · rename_i e
    rw [List.count_cons_of_ne (by simpa using e)]
    split
    · rename_i h
      exact absurd h (pieces_ne l)
    · rename_i h t he
      rw [he] at ih
      rw [← ih]; rfl
theorem bts_extract (s : ByteArray) (a b : Nat) : bts (s.extract a b) = ((bts s).drop a).take (b - a) := by
 simp [bts, ByteArray.data_extract, List.drop_take]
theorem bts_from (s : ByteArray) (a : Nat) : bts (s.extract a s.size) = (bts s).drop a := by
 rw [bts_extract, List.take_of_length_le (by rw [List.length_drop, bts_length]; exact Nat.le_refl _)]
theorem bts_to (s : ByteArray) (a : Nat) : bts (s.extract 0 a) = (bts s).take a := by
 rw [bts_extract]; simp
theorem bts_ext {s t : ByteArray} (h : bts s = bts t) : s = t := ByteArray.ext (Array.toList_inj.1 h)
theorem info_str : (Tryz.prog.info? 9).map (fun i => (i.zero, i.size, i.bytes)) = some (some (.string ⟨#[]⟩), 1, 16) := by kernel_rfl
structure CutAt (s : ByteArray) (r : ByteArray) (done : List ByteArray) : Prop where
 all : pieces (bts s) = done.map bts ++ pieces (bts r)
 left : (bts r).count 47 + done.length = (bts s).count 47
 size : r.size ≤ s.size
theorem CutAt.start (s : ByteArray) : CutAt s s [] := ⟨rfl, rfl, Nat.le_refl _⟩
theorem CutAt.step {s r : ByteArray} {done : List ByteArray} (h : CutAt s r done) {m : Nat} (h1 : (bts r)[m]? = some 47) (h2 : ∀ k, k < m → (bts r)[k]? ≠ some 47) : CutAt s (r.extract (m + 1) r.size) (done ++ [r.extract 0 m]) := by
 have e := pieces_cut h1 h2
 have hl := pieces_len (bts r)
 rw [e, List.length_cons, pieces_len] at hl
 refine ⟨?_, ?_, ?_⟩
 · rw [h.all, e, List.map_append, bts_from, List.map_cons, List.map_nil, bts_to, List.append_assoc]; rfl
 · rw [bts_from, List.length_append]
   have := h.left
   simp only [List.length_cons, List.length_nil]
   omega
 · have := h.size
   rw [ByteArray.size_extract]; omega
theorem CutAt.stop {s r : ByteArray} {done : List ByteArray} (h : CutAt s r done) (h1 : (bts s).count 47 ≤ done.length) : pieces (bts s) = (done ++ [r]).map bts := by
 have h0 : (bts r).count 47 = 0 := by have := h.left; omega
 rw [h.all, pieces_one (List.count_eq_zero.1 h0), List.map_append]; rfl
def cutC (done : List ByteArray) (k : Nat) : List Value := strs done ++ List.replicate k (.string ⟨#[]⟩)
theorem cutC_len (done : List ByteArray) (k : Nat) : (cutC done k).length = done.length + k := by simp [cutC, strs]
theorem set_mid {α : Type} (xs : List α) (y v : α) (zs : List α) : (xs ++ y :: zs).set xs.length v = xs ++ v :: zs := by
 induction xs with
 | nil => rfl
 | cons x xs ih => simp [ih]
theorem cutC_set (done : List ByteArray) (k : Nat) (x : ByteArray) : (cutC done (k + 1)).set done.length (.string x) = cutC (done ++ [x]) k := by
 have h := set_mid (strs done) (.string ⟨#[]⟩) (.string x) (List.replicate k (.string ⟨#[]⟩))
 rw [strs_len] at h
 unfold cutC
 rw [List.replicate_succ, h]
 simp [strs]
set_option maxHeartbeats 4000000 in
theorem gensplit_any (s : ByteArray) (w : World) (hs : s.size ≤ 100000) : Calls Tryz.prog 140 #[.string s, .string ⟨#[47]⟩, .int .i64 0, .int .i64 (-1)] w fun e w' => (∃ (l : List ByteArray) (g : Nat), pieces (bts s) = l.map bts ∧ e = .returned (.slice (some ⟨g, 0, none⟩) l.length l.length) ∧ w.heap.size ≤ g ∧ RowAt w' g (strs l)) ∧ Below w.heap.size w w' := by
 obtain ⟨c, hc⟩ : ∃ c, c = (bts s).count 47 := ⟨_, rfl⟩
 have hcs : c ≤ s.size := by rw [hc, ← bts_length s]; exact List.count_le_length
 have hcnt := Tryz.strings_Count_one s 47 w
 rw [show Lib.countByte s.data.toList 47 = c from hc.symm] at hcnt
 have HCn := Lh hcnt
 have HIx := Lh (fun (r : ByteArray) W => Tryz.strings_Index_one r 47 W)
 obtain ⟨i0, hi, hz0, hz1, hz2⟩ := info_parts info_str
 obtain ⟨W0, hmk, how, hgr⟩ := run_make_full (P := Tryz.prog) w w.heap.size 28 9 i0 (.string ⟨#[]⟩) 1 Tryz.underlying28 hi hz0 hz1 .i64 .i64 (c + 1) (by rw [hz2]; omega) (by unfold maxLen; omega) (Nat.le_refl _)
 have hB0 : Below w.heap.size w W0 := ⟨hgr.os, hgr.tape, hgr.output, hgr.size, fun k hk => hgr.block k hk (by simp)⟩
 have hR0 : RowAt W0 w.heap.size (cutC [] (c + 1)) := by
  have e1 : (madeCells (Value.string ⟨#[]⟩).cells ((c + 1) * 1)).toList = cutC [] (c + 1) := by
   rw [Nat.mul_one]
   show (madeCells #[.string ⟨#[]⟩] (c + 1)).toList = _
   rw [toList_madeCells_one]
   simp [cutC, strs]
  rw [e1] at how
  refine rowAt_own how (by rw [cutC_len]; simp) ?_
  exact (World.ownsRow.lt how w.heap.size rfl).2
 have hmk : (Instr.makeSlice 28 (.int .i64 ((c : Int) + 1)) (.int .i64 ((c : Int) + 1))).run Tryz.prog w = .ok (.slice (some ⟨w.heap.size, 0, none⟩) (c + 1) (c + 1)) W0 := hmk
 have HC := Lh hc
 have hw1 : IntKind.i64.wrap ((c : Int) + 1) = (c : Int) + 1 := IntWalk.i64_in _ (by omega)
 have hw2 : IntKind.i64.wrap ((s.size : Int) + 1) = (s.size : Int) + 1 := IntWalk.i64_in _ (by omega)
 have hmn : ¬ ((s.size : Int) + 1 < (c : Int) + 1) := by omega
 have hmn2 : (c : Int) + 1 ≤ (s.size : Int) + 1 := by omega
 have hn0 : ¬ ((c : Int) + 1 < 0) := by omega
 have hmin : min (c : Int) (s.size : Int) = (c : Int) := by omega
 clear hc hcnt hi hz0 hz1 hz2 how hgr
 go_enter Tryz.func140, Tryz.ntmps140
 go_wp2_with fail
 refine HCn.out.mono ?_
 rintro e w1 ⟨rfl, hww⟩
 obtain rfl := hww.symm
 clear hww hmn hmn2
 go_wp2_with fail
 clear hmk
 go_loopw [0, 10] (fun rr jj wr => ∃ (r : ByteArray) (done : List ByteArray), rr = .string r ∧ jj = .int .i64 done.length ∧ done.length ≤ c ∧ Hid (CutAt s r done ∧ RowAt wr w.heap.size (cutC done (c + 1 - done.length)) ∧ Below w.heap.size w wr)) (fun _ jj _ => c - (intOf jj).toNat)
 case atStart => exact ⟨s, [], rfl, rfl, by simp, CutAt.start s, hR0, hB0⟩
 case round =>
  obtain ⟨r, done, rfl, rfl, hk, HG⟩ := hrel
  clear hB0 hR0
  obtain ⟨k, hk0⟩ : ∃ k, k = done.length := ⟨_, rfl⟩
  have HK := Lh hk0
  rw [← hk0] at hk
  rw [← hk0]
  clear hk0
  have hrs : r.size ≤ 100000 := by have := HG.out.1.size; omega
  have hrow := HG.out.2.1
  have hlen : (cutC done (c + 1 - done.length)).length = c + 1 := by rw [cutC_len]; have := HK.out; omega
  obtain ⟨v0, m0⟩ := hrow.there k (by omega)
  have z0 := hrow.frozen k (by omega)
  have i2 : (0 : Int) ≤ (k : Int) := by omega
  have i3 : (k : Int) < (c : Int) + 1 := by omega
  clear hrow hlen
  by_cases hlt : k < c
  · have i1 : (k : Int) < (c : Int) := by omega
    have hI := HIx.out r wr
    have hne : Lib.indexByte r.data.toList 47 ≠ -1 := by
     intro e
     have h0 : (bts r).count 47 = 0 := by
      rw [List.count_eq_zero]
      intro hm
      obtain ⟨j, hj, he⟩ := List.getElem_of_mem hm
      exact Lib.indexByte_none e j (by rw [List.getElem?_eq_getElem hj, he])
     have := HG.out.1.left
     have := HC.out
     have := HK.out
     omega
    have hge := Lib.indexByte_ge r.data.toList 47
    obtain ⟨o, ho⟩ : ∃ o : Nat, Lib.indexByte r.data.toList 47 = o := ⟨(Lib.indexByte r.data.toList 47).toNat, by omega⟩
    rw [ho] at hI
    obtain ⟨p1, p2⟩ := Lib.indexByte_some ho
    have hor : o < r.size := by
     have := (List.getElem?_eq_some_iff.1 p1).1
     rw [← bts_length r]; exact this
    have HS := Lh (HG.out.1.step p1 p2)
    have HI := Lh hI
    have j1 : (0 : Int) ≤ (o : Int) := by omega
    have j2 : (o : Int) ≤ (r.size : Int) := by omega
    have j3 : (o : Int) + 1 ≤ (r.size : Int) := by omega
    have j4 : (0 : Int) ≤ (o : Int) + 1 := by omega
    have j5 : ¬ ((o : Int) < 0) := by omega
    have j6 : IntKind.i64.wrap ((o : Int) + 1) = (o : Int) + 1 := IntWalk.i64_in _ (by omega)
    have j7 : IntKind.i64.wrap (o : Int) = (o : Int) := IntWalk.i64_in _ (by omega)
    clear hI hne hge ho p1 p2
    go_wp2_with fail
    refine HI.out.mono ?_
    rintro e w5 ⟨rfl, hww⟩
    obtain rfl := hww.symm
    clear hww HI
    go_wp2_with fail
    go_roundw
    case rel =>
     refine ⟨r.extract (o + 1) r.size, done ++ [r.extract 0 o], by rfl, ?_, by have := HK.out; simp; omega, HS.out, ?_, HG.out.2.2.setCell (p := ⟨w.heap.size, k, none⟩) (Nat.le_refl _) _⟩
     · have := HK.out
       rw [this]
       simp
     · have h9 := HG.out.2.1.set k (.string (r.extract 0 o))
       have e : c + 1 - done.length = (c + 1 - (done ++ [r.extract 0 o]).length) + 1 := by have := HK.out; simp; omega
       rw [e, HK.out, cutC_set, ← HK.out] at h9
       exact h9
    case measure => simp [intOf]; omega
  · obtain rfl : k = c := by omega
    have hnl : ¬ ((k : Int) < (k : Int)) := by omega
    have HP := Lh (HG.out.1.stop (by have := HC.out; have := HK.out; omega))
    have hR : Hid (RowAt (wr.setCell ⟨w.heap.size, k, none⟩ (.string r)) w.heap.size (strs (done ++ [r]))) := by
     show RowAt _ _ _
     have h9 := HG.out.2.1.set k (.string r)
     have e : k + 1 - done.length = 0 + 1 := by have := HK.out; omega
     rw [e, HK.out, cutC_set, ← HK.out] at h9
     have e2 : cutC (done ++ [r]) 0 = strs (done ++ [r]) := by simp [cutC]
     rw [e2] at h9
     exact h9
    have hB := HG.out.2.2.setCell (p := ⟨w.heap.size, k, none⟩) (Nat.le_refl _) (.string r)
    have hl : Hid ((done ++ [r]).length = k + 1) := by show _ = _; have := HK.out; simp; omega
    go_wp2_with fail
    go_ret
    exact ⟨⟨done ++ [r], HP.out, w.heap.size, by rw [hl.out]; rfl, Nat.le_refl _, hR.out⟩, hB⟩
theorem ssplit_any (s : ByteArray) (w : World) (hs : s.size ≤ 100000) : Calls Tryz.prog 123 #[.string s, .string ⟨#[47]⟩] w fun e w' => (∃ (l : List ByteArray) (g : Nat), pieces (bts s) = l.map bts ∧ e = .returned (.slice (some ⟨g, 0, none⟩) l.length l.length) ∧ w.heap.size ≤ g ∧ RowAt w' g (strs l)) ∧ Below w.heap.size w w' := by
 have HG := Lh (gensplit_any s w hs)
 go_enter Tryz.func123, Tryz.ntmps123
 go_wp2_with fail
 refine HG.out.mono ?_
 rintro e w1 ⟨⟨l, g, h1, rfl, h2, h3⟩, hb⟩
 have H1 := Lh (And.intro h1 h3)
 clear h1 h3
 go_wp2_with fail
 go_ret
 exact ⟨⟨l, g, H1.out.1, rfl, h2, H1.out.2⟩, hb⟩
def SplitR (s : ByteArray) (w : World) (e : Ending) (w' : World) : Prop :=
 (∃ (l : List ByteArray) (a : Option Addr) (cap : Nat), l.map bts = (splitP (bts s)).1 ∧ e = .returned (.tuple #[.slice a l.length cap, .int .i64 (splitP (bts s)).2]) ∧ l.length ≤ cap ∧ (a = none → cap = 0) ∧ NewS w' w.heap.size a (strs l)) ∧ Below w.heap.size w w'
theorem split_none {s : ByteArray} {w w' : World} {z : Int} (h : splitP (bts s) = ([], z)) (hb : Below w.heap.size w w') : SplitR s w (.returned (.tuple #[.slice none 0 0, .int .i64 z])) w' :=
 ⟨⟨[], none, 0, by rw [h]; rfl, by rw [h]; rfl, Nat.le_refl _, fun _ => rfl, .inl rfl⟩, hb⟩
theorem pre_yes {s : ByteArray} {r : List UInt8} (h : bts s = 47 :: r) : Lib.hasPrefix s.data.toList [47] = true ∧ bts ⟨(Lib.trimPrefix s.data.toList [47]).toArray⟩ = r := by
 have e : s.data.toList = 47 :: r := h
 rw [e]
 refine ⟨by simp [Lib.hasPrefix], ?_⟩
 show (Lib.trimPrefix (47 :: r) [47]).toArray.toList = r
 simp [Lib.trimPrefix, Lib.hasPrefix]
theorem pre_no {s : ByteArray} (h : ∀ r, bts s ≠ 47 :: r) : Lib.hasPrefix s.data.toList [47] = false ∧ (256 < (bts s).length ∨ splitP (bts s) = ([], 130)) := by
 have e : s.data.toList = bts s := rfl
 rw [e]
 cases hb : bts s with
 | nil => exact ⟨rfl, .inr rfl⟩
 | cons c r =>
  rw [hb] at h
  have hc : ¬ c = 47 := fun e => h r (by rw [e])
  have hc2 : ((47 : UInt8) == c) = false := by rw [beq_eq_false_iff_ne]; exact fun e => hc e.symm
  refine ⟨by simp [Lib.hasPrefix, List.isPrefixOf, hc2], ?_⟩
  by_cases hl : 256 < (c :: r).length
  · exact .inl hl
  · right
    unfold splitP
    rw [if_neg hl]
    simp only [hc, if_false]
set_option maxHeartbeats 1000000 in
theorem csplit_any (s : ByteArray) (w : World) : Calls Tryz.prog 87 #[.string s] w (SplitR s w) := by
 have B0 : Below w.heap.size w w := Below.refl _ _
 by_cases h1 : 256 < s.size
 · have h1' : (256 : Int) < (s.size : Int) := by omega
   have HR := Lh (splitP_long (p := bts s) (by rw [bts_length]; exact h1))
   clear h1
   go_enter Tryz.func87, Tryz.ntmps87
   go_wp2_with fail
   go_ret2
   exact split_none HR.out B0
 have h1' : ¬ (256 : Int) < (s.size : Int) := by omega
 have hcp := Tryz.strings_CutPrefix s ⟨#[47]⟩ w
 rw [show (⟨#[47]⟩ : ByteArray).data.toList = [47] from rfl] at hcp
 by_cases hx : ∃ r, bts s = 47 :: r
 · obtain ⟨r, hr⟩ := hx
   obtain ⟨p1, p2⟩ := pre_yes hr
   rw [p1] at hcp
   generalize (⟨(Lib.trimPrefix s.data.toList [47]).toArray⟩ : ByteArray) = T at *
   have hTs : T.size ≤ 256 := by
    rw [← bts_length T, p2]
    have := congrArg List.length hr
    rw [bts_length, List.length_cons] at this
    omega
   have HCP := Lh hcp
   have he := emp_iff T
   have hsl : ¬ 256 < (bts s).length := by rw [bts_length]; exact h1
   clear p1 hcp h1
   by_cases hT : T.size = 0
   · rw [decide_eq_true hT] at he
     have HR := Lh (show splitP (bts s) = ([], 0) from by
      have : r = [] := by rw [← p2]; exact List.length_eq_zero_iff.1 (by rw [bts_length]; exact hT)
      rw [hr, this]; rfl)
     clear hT hr p2 hTs hsl
     go_enter Tryz.func87, Tryz.ntmps87
     go_wp2_with fail
     refine HCP.out.mono ?_
     rintro e w1 ⟨rfl, hww⟩
     obtain rfl := hww.symm
     clear hww
     go_wp2_with fail
     go_ret2
     exact split_none HR.out B0
   rw [decide_eq_false hT] at he
   have HSp := Lh (ssplit_any T w (by omega))
   have HRR := Lh (show splitP (bts s) = if (pieces (bts T)).all nmOk then (if 16 < (pieces (bts T)).length then ([], 3) else (pieces (bts T), 0)) else ([], 130) from by
    have hr0 : ¬ r = [] := by
     intro e
     rw [e] at p2
     have := congrArg List.length p2
     rw [bts_length] at this
     exact hT (by simpa using this)
    unfold splitP
    rw [if_neg hsl, hr, p2]
    simp only [if_true, hr0, if_false])
   have hcT : (pieces (bts T)).length ≤ 257 := by
    rw [pieces_len]
    have : (bts T).count 47 ≤ (bts T).length := List.count_le_length
    rw [bts_length] at this
    omega
   clear hT hr p2 hTs hsl
   go_enter Tryz.func87, Tryz.ntmps87
   go_wp2_with fail
   refine HCP.out.mono ?_
   rintro e w1 ⟨rfl, hww⟩
   obtain rfl := hww.symm
   clear hww HCP
   go_wp2_with fail
   refine HSp.out.mono ?_
   rintro e w2 ⟨⟨l, g, q1, rfl, q2, q3⟩, hb2⟩
   have B2 := hb2
   have hpl : l.length = (pieces (bts T)).length := by rw [q1]; simp
   have hall : (pieces (bts T)).all nmOk = l.all fun s => nmOk (bts s) := by rw [q1, List.all_map]; rfl
   have hll : l.length ≤ 257 := by omega
   rw [hall, ← hpl] at HRR
   have HRow := Lh (And.intro q1 q3)
   have HCO := Lh (contains_odd (some ⟨g, 0, none⟩) l.length l w2 (.inr ⟨g, 0, rfl, valAt_row q3⟩) (by omega))
   clear hpl hall hcT q1 q3 hb2 HSp
   cases ho : (l.all fun s => nmOk (bts s)) with
   | false =>
    rw [ho] at HRR HCO
    have HR := Lh (show splitP (bts s) = ([], 130) from HRR.out)
    clear ho HRR
    go_wp2_with fail
    refine HCO.out.mono ?_
    rintro e w3 ⟨rfl, hb3⟩
    have B3 := below_chain B2 hb3 B2.size
    go_wp2_with fail
    go_ret2
    exact split_none HR.out B3
   | true =>
    rw [ho] at HRR HCO
    clear ho
    by_cases h16 : 16 < l.length
    · have h16' : (16 : Int) < (l.length : Int) := by omega
      have HR := Lh (show splitP (bts s) = ([], 3) from by rw [HRR.out]; simp only [if_true, if_pos h16])
      clear HRR h16
      go_wp2_with fail
      refine HCO.out.mono ?_
      rintro e w3 ⟨rfl, hb3⟩
      have B3 := below_chain B2 hb3 B2.size
      go_wp2_with fail
      go_ret2
      exact split_none HR.out B3
    · have h16' : ¬ (16 : Int) < (l.length : Int) := by omega
      have HR := Lh (show splitP (bts s) = (pieces (bts T), 0) from by rw [HRR.out]; simp only [if_true, if_neg h16])
      clear HRR h16
      go_wp2_with fail
      refine HCO.out.mono ?_
      rintro e w3 ⟨rfl, hb3⟩
      have B3 := below_chain B2 hb3 B2.size
      have HNew := Lh (show NewS w3 w.heap.size (some ⟨g, 0, none⟩) (strs l) from .inr ⟨g, rfl, q2, HRow.out.2.below hb3 HRow.out.2.lt⟩)
      go_wp2_with fail
      go_ret2
      exact ⟨⟨l, some ⟨g, 0, none⟩, l.length, by rw [HR.out]; exact HRow.out.1.symm, by rw [HR.out]; rfl, Nat.le_refl _, (fun h => by cases h), HNew.out⟩, B3⟩
 · have hx2 : ∀ r, bts s ≠ 47 :: r := fun r h => hx ⟨r, h⟩
   obtain ⟨p1, p2⟩ := pre_no hx2
   rw [p1] at hcp
   have HCP := Lh hcp
   have HR := Lh (show splitP (bts s) = ([], 130) from by
    rcases p2 with h | h
    · rw [bts_length] at h; exact absurd h h1
    · exact h)
   generalize (⟨(Lib.trimPrefix s.data.toList [47]).toArray⟩ : ByteArray) = T at *
   clear hx hx2 p1 p2 hcp h1
   go_enter Tryz.func87, Tryz.ntmps87
   go_wp2_with fail
   refine HCP.out.mono ?_
   rintro e w1 ⟨rfl, hww⟩
   obtain rfl := hww.symm
   clear hww
   go_wp2_with fail
   go_ret2
   exact split_none HR.out B0
end Go.Proofs.YtppdihpobokfnaaGreatDoor
