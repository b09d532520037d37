/- Walks: parts of paths: odd, Check; the first odd part. -/
import Derived.Test.YtlhkfpenfbakkaaDoorNamAny
import Derived.Test.YtlhkfpenfbakkaaDoorSl
import Derived.Test.YtlhkfpenfbakkaaDoorMem4
import Derived.IntWalk
set_option linter.unusedVariables false
set_option linter.unusedSimpArgs false
set_option maxRecDepth 100000
namespace Go.Proofs.YtlhkfpenfbakkaaDoor
open Go.RowKit Go.Joins

theorem emp_iff (s : ByteArray) : s.toList.isEmpty = decide (s.size = 0) := by
  rw [Lib.toList_data, Bool.eq_iff_iff, List.isEmpty_iff, decide_eq_true_iff, ← List.length_eq_zero_iff]
  simp
theorem str_eq (a b : ByteArray) : (a.toList == b.toList) = decide (bts a = bts b) := by
  rw [Lib.toList_data, Lib.toList_data, Bool.eq_iff_iff, beq_iff_eq, decide_eq_true_iff]

theorem odd_any (s : ByteArray) (w : World) : Calls Tryd.prog 21 #[.string s] w fun e w' => e = .returned (.bool (!nmOk (bts s))) ∧ Below w.heap.size w w' := by
  have he := emp_iff s
  have B0 : Below w.heap.size w w := Below.refl _ _
  by_cases h1 : s.size = 0
  · rw [decide_eq_true h1] at he
    have HN := Lib.hid (show nmOk (bts s) = false from by rw [nmOk_bad, bts_length, decide_eq_false (by omega)]; rfl)
    clear h1
    go_enter Tryd.func21, Tryd.ntmps21
    go_wp2_with fail
    go_ret
    exact ⟨by rw [HN.out]; rfl, B0⟩
  rw [decide_eq_false h1] at he
  by_cases h2 : 32 < s.size
  · have h2' : (32 : Int) < (s.size : Int) := by omega
    have HN := Lib.hid (show nmOk (bts s) = false from by rw [nmOk_bad, bts_length, decide_eq_false (show ¬ s.size ≤ 32 by omega)]; simp)
    clear h1 h2
    go_enter Tryd.func21, Tryd.ntmps21
    go_wp2_with fail
    go_ret
    exact ⟨by rw [HN.out]; rfl, B0⟩
  have h2' : ¬ (32 : Int) < (s.size : Int) := by omega
  have HA := Lib.hid (cany s w (by omega))
  have HN := Lib.hid (show nmOk (bts s) = !badP (bts s) from by rw [nmOk_bad, bts_length, decide_eq_true (show 1 ≤ s.size by omega), decide_eq_true (show s.size ≤ 32 by omega)]; simp)
  clear h1 h2
  generalize badP (bts s) = b at *
  go_enter Tryd.func21, Tryd.ntmps21
  go_wp2_with fail
  refine HA.out.mono ?_
  rintro e w1 ⟨rfl, hb1⟩
  go_wp2_with fail
  go_ret
  exact ⟨by rw [HN.out]; simp, hb1⟩

theorem ccheck_any (s : ByteArray) (w : World) : Calls Tryd.prog 11 #[.string s] w fun e w' => e = .returned (.int .i64 (checkP (bts s))) ∧ Below w.heap.size w w' := by
  have HO := Lib.hid (odd_any s w)
  have kk : s.toList = bts s := Lib.toList_data s
  have HC := Lib.hid (show checkP (bts s) = if nmOk (bts s) = true ∧ bts s ≠ [46] ∧ bts s ≠ [46, 46] then 0 else 130 from rfl)
  cases hn : nmOk (bts s) with
  | false =>
    rw [hn, Bool.not_false] at HO
    rw [hn] at HC
    have HC2 := Lib.hid (show checkP (bts s) = 130 from by rw [HC.out]; simp)
    clear kk hn HC
    go_enter Tryd.func11, Tryd.ntmps11
    go_wp2_with fail
    refine HO.out.mono ?_
    rintro e w1 ⟨rfl, hb1⟩
    go_wp2_with fail
    go_ret
    exact ⟨by rw [HC2.out]; rfl, hb1⟩
  | true =>
    rw [hn, Bool.not_true] at HO
    rw [hn] at HC
    by_cases c1 : bts s = [46]
    · have HC2 := Lib.hid (show checkP (bts s) = 130 from by rw [HC.out, if_neg (fun h => h.2.1 c1)])
      have p1 : s.toList = [46] := kk.trans c1
      clear kk hn HC c1
      go_enter Tryd.func11, Tryd.ntmps11
      go_wp2_with fail
      refine HO.out.mono ?_
      rintro e w1 ⟨rfl, hb1⟩
      go_wp2_with fail
      go_ret
      exact ⟨by rw [HC2.out]; rfl, hb1⟩
    have p1 : ¬ s.toList = [46] := fun h => c1 (kk.symm.trans h)
    have b1 : (s.toList == [46]) = false := by simpa using p1
    by_cases c2 : bts s = [46, 46]
    · have HC2 := Lib.hid (show checkP (bts s) = 130 from by rw [HC.out, if_neg (fun h => h.2.2 c2)])
      have p2 : s.toList = [46, 46] := kk.trans c2
      clear kk hn HC c1 c2
      go_enter Tryd.func11, Tryd.ntmps11
      go_wp2_with fail
      refine HO.out.mono ?_
      rintro e w1 ⟨rfl, hb1⟩
      go_wp2_with fail
      go_ret
      exact ⟨by rw [HC2.out]; rfl, hb1⟩
    have p2 : ¬ s.toList = [46, 46] := fun h => c2 (kk.symm.trans h)
    have b2 : (s.toList == [46, 46]) = false := by simpa using p2
    have HC2 := Lib.hid (show checkP (bts s) = 0 from by rw [HC.out, if_pos ⟨rfl, c1, c2⟩])
    clear kk hn HC c1 c2
    go_enter Tryd.func11, Tryd.ntmps11
    go_wp2_with fail
    refine HO.out.mono ?_
    rintro e w1 ⟨rfl, hb1⟩
    go_wp2_with fail
    go_ret
    exact ⟨by rw [HC2.out]; rfl, hb1⟩

/-- a list of texts, as the cells of a slice -/
def strs (l : List ByteArray) : List Value := l.map Value.string
theorem strs_len (l : List ByteArray) : (strs l).length = l.length := by simp [strs]
theorem strs_get {l : List ByteArray} {k : Nat} {x : ByteArray} (h : l[k]? = some x) : (strs l)[k]? = some (.string x) := by simp [strs, h]
theorem str_cell {w : World} {a : Option Addr} {l : List ByteArray} {k : Nat} {x : ByteArray} (h : ValS w a (strs l)) (hx : l[k]? = some x) : ∃ P o, a = some ⟨P, o, none⟩ ∧ P < w.heap.size ∧ w.cell? ⟨P, o + k, none⟩ = some (.string x) := by
  rcases h with h | ⟨B, o, rfl, h1, h2⟩
  · have := (List.getElem?_eq_some_iff.1 hx).1
    have h3 := strs_len l
    rw [h] at h3
    simp at h3
    omega
  · exact ⟨B, o, rfl, h1, h2 k _ (strs_get hx)⟩
def oddB (s : ByteArray) : Bool := !nmOk (bts s)
def anyOdd (l : List ByteArray) : Bool := l.any oddB

set_option maxHeartbeats 1000000 in
theorem index_odd (a : Option Addr) (cap : Nat) (l : List ByteArray) (w : World) (hV : ValS w a (strs l)) (hl : l.length ≤ 1000000) :
    Calls Tryd.prog 26 #[.slice a l.length cap, .func (.func 21) #[] #[]] w fun e w' => (∃ i : Int, e = .returned (.int .i64 i) ∧ (0 ≤ i ↔ anyOdd l = true)) ∧ Below w.heap.size w w' := by
  have HV := Lib.hid hV
  have hl' : (l.length : Int) ≤ 1000000 := by omega
  clear hV
  go_enter Tryd.func26, Tryd.ntmps26
  go_wp2_with fail
  go_loopw [5, 8] (fun _ jj wr => ∃ k : Nat, k ≤ l.length ∧ jj = .int .i64 k ∧ Hid (∀ j < k, ∃ s, l[j]? = some s ∧ oddB s = false) ∧ Below w.heap.size w wr) (fun _ jj _ => l.length - (intOf jj).toNat)
  case atStart => exact ⟨0, by omega, rfl, fun j hj => by omega, Below.refl _ _⟩
  case round =>
    obtain ⟨k, hk, rfl, HA, Bw⟩ := hrel
    by_cases hlt : k < l.length
    · obtain ⟨s, hs⟩ : ∃ s, l[k]? = some s := ⟨_, List.getElem?_eq_getElem hlt⟩
      obtain ⟨P, o, rfl, hP, d0⟩ := str_cell (HV.out.below Bw (Nat.le_refl _)) hs
      have HS := Lib.hid hs
      have h1 : (k : Int) < (l.length : Int) := by omega
      have h2 : (0 : Int) ≤ (k : Int) := by omega
      have HF := Lib.hid (odd_any s wr)
      change Hid (Calls _ _ _ _ fun e w' => e = .returned (.bool (oddB s)) ∧ _) at HF
      clear hs
      cases hp : oddB s with
      | true =>
        rw [hp] at HF
        have HF2 : Hid (anyOdd l = true) := by
          show l.any oddB = _
          rw [List.any_eq_true]
          exact ⟨s, List.mem_of_getElem? HS.out, hp⟩
        clear hp
        go_wp2_with fail
        refine HF.out.mono ?_
        rintro e w1 ⟨rfl, hb1⟩
        have B1 := below_chain Bw hb1 Bw.size
        go_wp2_with fail
        go_ret
        exact ⟨⟨k, rfl, by rw [HF2.out]; simp⟩, B1⟩
      | false =>
        rw [hp] at HF
        have HA2 : Hid (∀ j < k + 1, ∃ s, l[j]? = some s ∧ oddB s = false) := by
          intro j hj
          by_cases c : j < k
          · exact HA.out j c
          · obtain rfl : j = k := by omega
            exact ⟨s, HS.out, hp⟩
        clear hp
        go_wp2_with fail
        refine HF.out.mono ?_
        rintro e w1 ⟨rfl, hb1⟩
        have B1 := below_chain Bw hb1 Bw.size
        clear d0 hb1
        go_wp2_with fail
        go_roundw
        case rel => exact ⟨k + 1, by omega, by go_num, HA2, B1⟩
        case measure => simp [intOf]; omega
    · obtain rfl : k = l.length := by omega
      have h1 : ¬ (l.length : Int) < (l.length : Int) := by omega
      have HF2 : Hid (anyOdd l = false) := by
        show l.any oddB = _
        rw [List.any_eq_false]
        intro x hx
        obtain ⟨j, hj, rfl⟩ := List.getElem_of_mem hx
        obtain ⟨s', h1', h2'⟩ := HA.out j hj
        rw [(List.getElem_eq_iff _).2 h1', h2']; simp
      go_wp2_with fail
      go_ret
      exact ⟨⟨-1, rfl, by rw [HF2.out]; simp⟩, Bw⟩

theorem contains_odd (a : Option Addr) (cap : Nat) (l : List ByteArray) (w : World) (hV : ValS w a (strs l)) (hl : l.length ≤ 1000000) :
    Calls Tryd.prog 20 #[.slice a l.length cap, .func (.func 21) #[] #[]] w fun e w' => e = .returned (.bool (!(l.all fun s => nmOk (bts s)))) ∧ Below w.heap.size w w' := by
  have HI := Lib.hid (index_odd a cap l w hV hl)
  have hr : (!(l.all fun s => nmOk (bts s))) = anyOdd l := by
    unfold anyOdd
    rw [List.all_eq_not_any_not, Bool.not_not]
    rfl
  rw [hr]
  clear hr hV
  go_enter Tryd.func20, Tryd.ntmps20
  go_wp2_with fail
  refine HI.out.mono ?_
  rintro e w1 ⟨⟨i, rfl, hi⟩, hb⟩
  go_wp2_with fail
  go_ret
  exact ⟨by rw [show anyOdd l = decide (0 ≤ i) from by rw [Bool.eq_iff_iff, decide_eq_true_iff]; exact hi.symm]; first | rfl | simp, hb⟩

end Go.Proofs.YtlhkfpenfbakkaaDoor
