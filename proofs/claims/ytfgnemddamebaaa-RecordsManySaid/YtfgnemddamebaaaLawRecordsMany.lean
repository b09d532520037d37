/- For every input the law glissadelaw08.RecordsMany returns true. -/
import Derived.Laws.OwnMore
import Derived.Deep.AppendLies
import Derived.Test.YtfgnemddamebaaaRecAlive
import Derived.Test.YtfgnemddamebaaaMem2
import Derived.Test.YtfgnemddamebaaaMem3
import Derived.Test.YtfgnemddamebaaaRecWalks6
import Derived.Test.YtfgnemddamebaaaFrame
set_option linter.unusedVariables false
set_option linter.unusedSimpArgs false
set_option maxRecDepth 100000
namespace Go.Proofs.Ytfgnemddamebaaa
open Go.RowKit Go.Joins

/-- make([]bool, n) -/
theorem make_bools (w : World) (i : TypeInfo) (hi : Try.prog.info? 4 = some i) (hz : i.zero = some (.bool false)) (hs : i.size = 1) (hb : i.bytes = 1) (n : Nat) (hn : n ≤ 1000) :
    ∃ W1, (Instr.makeSlice 24 (.int .i64 (n : Int)) (.int .i64 (n : Int))).run Try.prog w = .ok (.slice (some ⟨w.heap.size, 0, none⟩) n n) W1 ∧ Below w.heap.size w W1 ∧ RowAt W1 w.heap.size ((List.replicate n false).map Value.bool) := by
  obtain ⟨W1, h1, h2, h3⟩ := run_make_full (P := Try.prog) w w.heap.size 24 4 i (.bool false) 1 Try.underlying24 hi hz hs .i64 .i64 n (by rw [hb]; omega) (by unfold maxLen; omega) (Nat.le_refl _)
  refine ⟨W1, h1, ⟨h3.os, h3.tape, h3.output, h3.size, fun k hk => h3.block k hk (by simp)⟩, ?_⟩
  have e1 : (madeCells (Value.bool false).cells (n * 1)).toList = (List.replicate n false).map Value.bool := by
    rw [Nat.mul_one]
    show (madeCells #[.bool false] n).toList = _
    rw [toList_madeCells_one]
    simp
  rw [e1] at h2
  refine rowAt_own h2 (by simp) ?_
  have := World.ownsRow.lt h2 w.heap.size rfl
  exact this.2

/-- homes, so far apart -/
def manyH (f s : Nat) (n : Nat) : List Int := (List.range n).map fun (j : Nat) => ((f : Int) + s * j)
theorem manyH_len (f s n : Nat) : (manyH f s n).length = n := by simp [manyH]
theorem manyH_snoc (f s n : Nat) : (manyH f s n).map (Value.int .i64) ++ [.int .i64 ((f : Int) + s * n)] = (manyH f s (n + 1)).map (Value.int .i64) := by simp [manyH, List.range_succ]
theorem many_ris (f s n : Nat) (hs : 1 ≤ s) (h : f + s * n ≤ 4096) (last : List Int) (hl : last = [] ∨ ∃ z, last = [z] ∧ 0 < n ∧ (f : Int) + s * (n - 1 : Nat) < z ∧ z < 4096) : risOk (manyH f s n ++ last) = true := by
  refine risOk_yes fun k hk => ?_
  have hlen := manyH_len f s n
  have hget : ∀ j, j < n → (manyH f s n ++ last)[j]? = some ((f : Int) + s * j) := by
    intro j hj
    rw [List.getElem?_append_left (by omega), manyH, List.getElem?_map, List.getElem?_range hj]; rfl
  have hmul : ∀ j, j < n → (s : Int) * j + s ≤ s * n := by
    intro j hj
    have : s * (j + 1) ≤ s * n := Nat.mul_le_mul_left s hj
    rw [Nat.mul_succ] at this
    exact_mod_cast this
  have hmz : ((f : Int) + s * n) ≤ 4096 := by exact_mod_cast h
  by_cases hkn : k < n
  · rw [stepH, hget k hkn]
    have h1 := hmul k hkn
    have h0 : (0 : Int) ≤ (s : Int) * k := by exact_mod_cast Nat.zero_le _
    simp only [Bool.and_eq_true, decide_eq_true_eq, Bool.or_eq_true]
    refine ⟨by omega, by omega, ?_⟩
    by_cases hk0 : k = 0
    · exact .inl hk0
    · right
      rw [hget (k - 1) (by omega)]
      have h2 := hmul (k - 1) (by omega)
      have h3 : ((s : Int) * ((k - 1 : Nat) : Int)) + s = s * k := by
        have : s * ((k - 1) + 1) = s * k := by rw [Nat.sub_add_cancel (by omega)]
        rw [Nat.mul_succ] at this
        exact_mod_cast this
      simp only [decide_eq_true_eq]
      omega
  · rcases hl with rfl | ⟨z, rfl, hn0, hz1, hz2⟩
    · simp [hlen] at hk; omega
    · have hkk : k = n := by simp [hlen] at hk; omega
      subst hkk
      rw [stepH, List.getElem?_append_right (by omega), hlen, Nat.sub_self]
      have h0 : (0 : Int) ≤ (s : Int) * ((k - 1 : Nat) : Int) := by exact_mod_cast Nat.zero_le _
      simp only [List.getElem?_cons_zero, Bool.and_eq_true, decide_eq_true_eq, Bool.or_eq_true]
      refine ⟨by omega, by omega, ?_⟩
      right
      rw [hget (k - 1) (by omega)]
      simp only [decide_eq_true_eq]
      exact hz1

theorem many_pre (f s n k : Nat) (hk : k ≤ n) : ∀ (j : Nat) (u : Value), ((manyH f s k).map (Value.int .i64))[j]? = some u → ((manyH f s n).map (Value.int .i64))[j]? = some u := by
  intro j u h
  have hj := (List.getElem?_eq_some_iff.1 h).1
  simp [manyH_len] at hj
  rw [← h]
  simp only [manyH, List.getElem?_map, List.getElem?_range hj, List.getElem?_range (show j < n by omega)]

set_option maxHeartbeats 16000000 in
theorem recMany_core (w : World) (n0 n1 fr : Int) (a b f : Nat) (ha : n0 % 5 = (a : Int)) (hb : n1 % 5 = (b : Int)) (ha4 : a ≤ 4) (hb4 : b ≤ 4) (hf : fr = (f : Int)) (hf9 : f ≤ 255) (hn0 : 0 ≤ n0 ∧ n0 ≤ 255) (hn1 : 0 ≤ n1 ∧ n1 ≤ 255) (e1 e2 : Int) (Q1 Q2 Q5 : ByteArray)
    (H1 : Hid (e1 = 0 ∧ (22 + (a : Int)) ≤ 24 ∨ e1 = 2 ∧ ¬ (22 + (a : Int)) ≤ 24)) (H2 : Hid (e2 = 0 ∧ (26 + (b : Int)) ≤ 28 ∨ e2 = 2 ∧ ¬ (26 + (b : Int)) ≤ 28))
    (HE1 : Hid (∀ p cp r cr W, ValS W p ((manyH f 1 (22 + a)).map (Value.int .i64)) → ValS W r ((List.replicate (22 + a) false).map Value.bool) → Calls Try.prog 11 #[rv 2 0 0 p (22 + a) cp r (22 + a) cr 0] W fun e w' => e = .returned (.tuple #[.string Q1, .int .i64 e1]) ∧ Below W.heap.size W w'))
    (HE2 : Hid (∀ p cp W, ValS W p ((manyH f 3 (26 + b)).map (Value.int .i64)) → Calls Try.prog 11 #[rv 3 0 0 p (26 + b) cp none 0 0 0] W fun e w' => e = .returned (.tuple #[.string Q2, .int .i64 e2]) ∧ Below W.heap.size W w'))
    (HE3 : Hid (∀ p cp r cr W, ValS W p ((manyH f 1 (22 + a)).map (Value.int .i64)) → ValS W r ((List.replicate (23 + a) false).map Value.bool) → Calls Try.prog 11 #[rv 2 0 0 p (22 + a) cp r (23 + a) cr 0] W fun e w' => e = .returned (.tuple #[.string ⟨#[]⟩, .int .i64 2]) ∧ Below W.heap.size W w'))
    (HE4 : Hid (∀ p cp W, ValS W p ((manyH f 3 5 ++ [4096]).map (Value.int .i64)) → Calls Try.prog 11 #[rv 3 0 0 p 6 cp none 0 0 0] W fun e w' => e = .returned (.tuple #[.string ⟨#[]⟩, .int .i64 2]) ∧ Below W.heap.size W w'))
    (HE5 : Hid (∀ p cp W, ValS W p ((manyH f 3 5 ++ [4095]).map (Value.int .i64)) → Calls Try.prog 11 #[rv 3 0 0 p 6 cp none 0 0 0] W fun e w' => e = .returned (.tuple #[.string Q5, .int .i64 0]) ∧ Below W.heap.size W w')) :
    Calls Try.prog 9 #[.agg #[.int .u8 n0, .int .u8 n1], .int .u8 fr] w fun e w' => e = .returned (.bool true) ∧ Below w.heap.size w w' := by
  subst hf
  obtain ⟨i0, hi, hz0, hz1, hz2⟩ := info_parts info_int8
  have HI := Lib.hid (And.intro hi (And.intro hz0 (And.intro hz1 hz2)))
  clear hi hz0 hz1 hz2
  obtain ⟨i1, hi, hz0, hz1, hz2⟩ := info_parts info_bool8
  have HJ := Lib.hid (And.intro hi (And.intro hz0 (And.intro hz1 hz2)))
  clear hi hz0 hz1 hz2
  obtain ⟨m0, m1⟩ := hn0
  obtain ⟨m2, m3⟩ := hn1
  have B0 : Below w.heap.size w (w.alloc (.cells #[.int .u8 n0, .int .u8 n1] 46)) := by go_grown
  go_enter Try.func9, Try.ntmps9
  go_wp2_with fail
  go_loopw [7, 9] (fun ll jj wr => ∃ (j : Nat) (p : Option Addr) (cp : Nat), j ≤ 22 + a ∧ jj = .int .i64 j ∧ ll = .slice p j cp ∧ wr.ownsRow w.heap.size 3 1 (.slice p j cp) j ((manyH f 1 j).map (Value.int .i64)) ∧ Below w.heap.size w wr) (fun _ jj _ => 22 + a - (intOf jj).toNat)
  case atStart => exact ⟨0, none, 0, by omega, rfl, rfl, World.ownsRow_nil _ _ _ _, B0⟩
  case round =>
    clear B0 ha hb
    obtain ⟨j, p, cp, hj, rfl, rfl, hown, B1⟩ := hrel
    have HK := Lib.hid hown
    have HL := Lib.hid (fun j hj => World.ownsRow.lt HK.out j hj)
    clear hown
    by_cases hlt : j < 22 + a
    · have h1 : (j : Int) < 22 + (a : Int) := by omega
      have HR := Lib.hid (row_news8 (rowAt_alloc wr #[.int .i64 ((f : Int) + j)] 3))
      go_wp2_with (at_builtin; refine wpList_append_own _ rfl _ _ 23 rfl w.heap.size 3 i0 (.int .i64 0) 1 8 Try.underlying23 HI.out.1 HI.out.2.1 HI.out.2.2.1 HI.out.2.2.2 rfl (by decide) _ j _ rfl (HK.out.alloc _) ⟨wr.heap.size, 0, none⟩ 1 1 [.int .i64 ((f : Int) + j)] rfl rfl ?c1 ?c2 ?c3 ?c4 ?c5 ?_)
      case c2 => rfl
      case c3 => unfold maxLen; omega
      case c4 => omega
      case c5 => have := B1.size; simp; omega
      intro v' w9 hown9 hg9 _
      obtain ⟨a9, cap9, rfl⟩ := own_form hown9
      have B9 := grown_below8 (B1.alloc B1.size (.cells #[.int .i64 ((f : Int) + j)] 3)) hg9 (fun j hj => by have := (HL.out j hj).1; omega) (by simp; have := B1.size; omega)
      have HO9 : Hid (w9.ownsRow w.heap.size 3 1 (.slice a9 (j + 1) cap9) (j + 1) ((manyH f 1 (j + 1)).map (Value.int .i64))) := by
        show World.ownsRow _ _ _ _ _ _ _; rw [← manyH_snoc]; simpa using hown9
      clear hown9 hg9 HR
      go_wp2_with fail
      go_roundw
      case rel => exact ⟨j + 1, a9, cap9, by omega, by go_num, rfl, HO9.out, B9⟩
      case measure => simp [intOf]; omega
    · obtain rfl : j = 22 + a := by omega
      have h1 : ¬ (((22 + a : Nat) : Int)) < 22 + (a : Int) := by omega
      have hnew : NewS wr w.heap.size p ((manyH f 1 (22 + a)).map (Value.int .i64)) := by
        obtain ⟨a', cap', hv, hn, _⟩ := own_news HK.out
        injection hv with hv1
        rw [hv1]; exact hn
      have HNB : Hid (NewS wr w.heap.size p ((manyH f 1 (22 + a)).map (Value.int .i64)) ∧ ∀ g, p = some ⟨g, 0, none⟩ → g < wr.heap.size) := by
        refine ⟨hnew, fun g hg => ?_⟩
        rcases hnew with e | ⟨g', e, _, hr⟩
        · have := congrArg List.length e; simp [manyH_len] at this
        · rw [hg] at e; injection e with e; injection e with e; have := hr.lt; omega
      clear HK HL hnew hlt hj
      have hS1 := B1.size
      generalize hBS : wr.heap.size = BS at HNB
      have hS2 : BS ≤ wr.heap.size := by omega
      have hS3 : w.heap.size ≤ BS := by omega
      clear hBS hS1
      go_wp2_with fail
      go_loopw [8, 10] (fun ll jj wr => ∃ (j : Nat) (p2 : Option Addr) (cp2 : Nat), j ≤ 26 + b ∧ jj = .int .i64 j ∧ ll = .slice p2 j cp2 ∧ wr.ownsRow BS 3 1 (.slice p2 j cp2) j ((manyH f 3 j).map (Value.int .i64)) ∧ Hid (NewS wr w.heap.size p ((manyH f 1 (22 + a)).map (Value.int .i64)) ∧ ∀ g, p = some ⟨g, 0, none⟩ → g < BS) ∧ BS ≤ wr.heap.size ∧ Below w.heap.size w wr) (fun _ jj _ => 26 + b - (intOf jj).toNat)
      case atStart => exact ⟨0, none, 0, by omega, rfl, rfl, World.ownsRow_nil _ _ _ _, HNB, hS2, B1⟩
      case round =>
        clear B1 HNB hS2 h1
        obtain ⟨j, p2, cp2, hj, rfl, rfl, hown, HNB, hS2, B1⟩ := hrel
        have HK := Lib.hid hown
        have HL := Lib.hid (fun j hj => World.ownsRow.lt HK.out j hj)
        clear hown
        by_cases hlt : j < 26 + b
        · have h1 : (j : Int) < 26 + (b : Int) := by omega
          have HR := Lib.hid (row_news8 (rowAt_alloc wr #[.int .i64 ((f : Int) + 3 * j)] 3))
          go_wp2_with (at_builtin; refine wpList_append_own _ rfl _ _ 23 rfl BS 3 i0 (.int .i64 0) 1 8 Try.underlying23 HI.out.1 HI.out.2.1 HI.out.2.2.1 HI.out.2.2.2 rfl (by decide) _ j _ rfl (HK.out.alloc _) ⟨wr.heap.size, 0, none⟩ 1 1 [.int .i64 ((f : Int) + 3 * j)] rfl rfl ?d1 ?d2 ?d3 ?d4 ?d5 ?_)
          case d2 => rfl
          case d3 => unfold maxLen; omega
          case d4 => omega
          case d5 => omega
          intro v' w9 hown9 hg9 _
          obtain ⟨a9, cap9, rfl⟩ := own_form hown9
          have hS9 : BS ≤ w9.heap.size := by have h8 := hg9.size; simp at h8; omega
          have HNB9 : Hid (NewS w9 w.heap.size p ((manyH f 1 (22 + a)).map (Value.int .i64)) ∧ ∀ g, p = some ⟨g, 0, none⟩ → g < BS) := by
            refine ⟨?_, HNB.out.2⟩
            have hn7 := HNB.out.1.below ((Below.refl _ _).alloc (Nat.le_refl _) (.cells #[.int .i64 ((f : Int) + 3 * j)] 3)) (Nat.le_refl _)
            rcases hn7 with e | ⟨g, e, hg1, hg2⟩
            · exact .inl e
            · exact .inr ⟨g, e, hg1, hg2.grown hg9 (fun q => by have := (HL.out _ q).1; have := HNB.out.2 g e; omega)⟩
          have B9 := grown_below8 (B1.alloc B1.size (.cells #[.int .i64 ((f : Int) + 3 * j)] 3)) hg9 (fun j hj => by have := (HL.out j hj).1; omega) (by simp; have := B1.size; omega)
          have HO9 : Hid (w9.ownsRow BS 3 1 (.slice a9 (j + 1) cap9) (j + 1) ((manyH f 3 (j + 1)).map (Value.int .i64))) := by
            show World.ownsRow _ _ _ _ _ _ _; rw [← manyH_snoc]; simpa using hown9
          clear hown9 hg9 HR
          go_wp2_with fail
          go_roundw
          case rel => exact ⟨j + 1, a9, cap9, by omega, by go_num, rfl, HO9.out, HNB9, hS9, B9⟩
          case measure => simp [intOf]; omega
        · obtain rfl : j = 26 + b := by omega
          have h1 : ¬ (((26 + b : Nat) : Int)) < 26 + (b : Int) := by omega
          have hnew : NewS wr w.heap.size p2 ((manyH f 3 (26 + b)).map (Value.int .i64)) := by
            obtain ⟨a', cap', hv, hn, _⟩ := own_news HK.out
            injection hv with hv1
            rw [hv1]; exact hn.less hS3
          have hcap : 26 + b ≤ cp2 := by
            have h := HK.out
            rcases h.2 with ⟨h3, h4⟩ | ⟨g, cap, cur, hv, _, _, h5, _⟩
            · omega
            · injection hv with _ _ hv3; omega
          have hp2 : ∃ G, p2 = some ⟨G, 0, none⟩ := by
            rcases hnew with e | ⟨g, e, _⟩
            · have := congrArg List.length e; simp [manyH_len] at this
            · exact ⟨g, e⟩
          obtain ⟨G, rfl⟩ := hp2
          have HV1 := Lib.hid HNB.out.1.vals
          have HV2 := Lib.hid hnew.vals
          clear HK HL hnew hlt hj HNB hS2 hS3
          have k1 : (5 : Int) ≤ (cp2 : Int) := by omega
          have k2 : (0 : Int) ≤ 5 := by omega
          obtain ⟨W1, hmk, hbm, hrm⟩ := make_bools wr i1 HJ.out.1 HJ.out.2.1 HJ.out.2.2.1 HJ.out.2.2.2 (22 + a) (by omega)
          rw [show (((22 + a : Nat)) : Int) = 22 + (a : Int) by omega] at hmk
          go_wp2_with fail
          refine (HE1.out p cp _ _ _ (HV1.out.below hbm (Nat.le_refl _)) (.inr ⟨wr.heap.size, 0, rfl, valAt_row hrm⟩)).mono ?_
          rintro e w1 ⟨rfl, hb1⟩
          have X1 : Below wr.heap.size wr w1 := below_chain hbm hb1 hbm.size
          have B2 := below_chain B1 X1 B1.size
          have HV1 := Lib.hid (HV1.out.below X1 (Nat.le_refl _))
          have HV2 := Lib.hid (HV2.out.below X1 (Nat.le_refl _))
          clear hmk hbm hrm hb1 X1 B1
          go_wp2_with fail
          refine (HE2.out _ cp2 _ HV2.out).mono ?_
          rintro e w2 ⟨rfl, hb2⟩
          have B3 := below_chain B2 hb2 B2.size
          have HV1 := Lib.hid (HV1.out.below hb2 (Nat.le_refl _))
          have HV2 := Lib.hid (HV2.out.below hb2 (Nat.le_refl _))
          clear hb2 B2
          obtain ⟨W1, hmk, hbm, hrm⟩ := make_bools w2 i1 HJ.out.1 HJ.out.2.1 HJ.out.2.2.1 HJ.out.2.2.2 (23 + a) (by omega)
          rw [show (((23 + a : Nat)) : Int) = 22 + (a : Int) + 1 by omega] at hmk
          go_wp2_with fail
          refine (HE3.out p cp _ _ _ (HV1.out.below hbm (Nat.le_refl _)) (.inr ⟨w2.heap.size, 0, rfl, valAt_row hrm⟩)).mono ?_
          rintro e w3 ⟨rfl, hb3⟩
          have X1 : Below w2.heap.size w2 w3 := below_chain hbm hb3 hbm.size
          have B4 := below_chain B3 X1 B3.size
          have HV2 := Lib.hid (HV2.out.below X1 (Nat.le_refl _))
          clear hmk hbm hrm hb3 X1 B3 HV1
          have hG : G < w3.heap.size := by
            rcases HV2.out with e | ⟨P, o, e, hV⟩
            · have := congrArg List.length e; simp [manyH_len] at this
            · injection e with e; injection e with e1 e2; have := hV.1; omega
          have HN5 : Hid (∀ j u, ((manyH f 3 5).map (Value.int .i64))[j]? = some u → (w3.alloc (.cells #[] 3)).cell? ((⟨G, 0, none⟩ : Addr).add j) = some u) := by
            intro j u hu
            rcases HV2.out with e | ⟨P, o, e, hV⟩
            · have := congrArg List.length e; simp [manyH_len] at this
            · injection e with e; injection e with e1 e2; subst e1; subst e2
              rw [addr_add]
              exact (hV.alloc _).2 j u (many_pre f 3 (26 + b) 5 (by omega) j u hu)
          go_wp2_with (at_builtin; refine wpList_append_own _ rfl _ _ 23 rfl w3.heap.size 3 i0 (.int .i64 0) 1 8 Try.underlying23 HI.out.1 HI.out.2.1 HI.out.2.2.1 HI.out.2.2.2 rfl (by decide) _ 0 [] rfl (World.ownsRow_made w3 #[] 0 (Nat.le_refl _) (by decide) rfl) ⟨G, 0, none⟩ 5 cp2 ((manyH f 3 5).map (Value.int .i64)) rfl (by simp [manyH_len]) HN5.out ?f2 ?f3 ?f4 ?f5 ?_)
          case f2 => simp [manyH, List.range_succ]; exact ⟨rfl, rfl, rfl, rfl, rfl⟩
          case f3 => decide
          case f4 => decide
          case f5 => simp
          intro v' w7 hown5 hg5 _
          obtain ⟨a5, cap5, rfl⟩ := own_form hown5
          have hown5' : w7.ownsRow w3.heap.size 3 1 (.slice a5 5 cap5) 5 ((manyH f 3 5).map (Value.int .i64)) := hown5
          have HK5 := Lib.hid hown5'
          have HL5 := Lib.hid (fun j hj => World.ownsRow.lt HK5.out j hj)
          have B5 := grown_below8 (B4.alloc B4.size (.cells #[] 3)) hg5 (fun j hj => by have q2 : w3.heap.size = j := (by simpa [Value.ownBlock] using hj); have := B4.size; omega) (by simp; have := B4.size; omega)
          have S5 : w3.heap.size + 1 ≤ w7.heap.size := by have := hg5.size; simpa using this
          have HV5 : Hid (ValS w7 (some ⟨G, 0, none⟩) ((manyH f 3 (26 + b)).map (Value.int .i64))) := by
            rcases HV2.out with e | ⟨P, o, e, hV⟩
            · exact .inl e
            · refine .inr ⟨P, o, e, by have := hV.1; omega, fun i u hu => ?_⟩
              rw [← (hV.alloc (.cells #[] 3)).2 i u hu]
              exact hg5.cell_far _ (by simp; have := hV.1; omega) (fun q => by have q2 : P = w3.heap.size := (by simpa [Value.ownBlock] using q); have := hV.1; omega)
          clear hown5 hown5' hg5 HV2 HN5
          have HR5 := Lib.hid (row_news8 (rowAt_alloc w7 #[.int .i64 4096] 3))
          go_wp2_with (at_builtin; refine wpList_append_own _ rfl _ _ 23 rfl w3.heap.size 3 i0 (.int .i64 0) 1 8 Try.underlying23 HI.out.1 HI.out.2.1 HI.out.2.2.1 HI.out.2.2.2 rfl (by decide) _ 5 _ rfl (HK5.out.alloc _) ⟨w7.heap.size, 0, none⟩ 1 1 [.int .i64 4096] rfl rfl HR5.out ?n2 ?n3 ?n4 ?n5 ?_)
          case n2 => rfl
          case n3 => decide
          case n5 => omega
          intro v' w8 hown6 hg6 _
          obtain ⟨a6, cap6, rfl⟩ := own_form hown6
          have HW6 : Hid (ValS w8 a6 ((manyH f 3 5 ++ [4096]).map (Value.int .i64))) := by
            obtain ⟨a', cap', hv, hn, _⟩ := own_news hown6
            injection hv with hv1
            rw [hv1, List.map_append]
            exact hn.vals
          have B6 := grown_below8 (B5.alloc B5.size (.cells #[.int .i64 4096] 3)) hg6 (fun j hj => by have := (HL5.out j hj).1; have := B4.size; omega) (by simp; have := B5.size; omega)
          have HV6 : Hid (ValS w8 (some ⟨G, 0, none⟩) ((manyH f 3 (26 + b)).map (Value.int .i64))) := by
            rcases HV5.out with e | ⟨P, o, e, hV⟩
            · exact .inl e
            · refine .inr ⟨P, o, e, by have := hV.1; have := hg6.size; simp at this; omega, fun i u hu => ?_⟩
              rw [← (hV.alloc (.cells #[.int .i64 4096] 3)).2 i u hu]
              refine hg6.cell_far _ (by simp; have := hV.1; omega) (fun q => ?_)
              have h7 := (HL5.out P q.symm).1
              injection e with e; injection e with e1 e2; omega
          clear hown6 hg6 HK5 HL5 HR5 HV5 hG S5 B4
          go_wp2_with fail
          refine (HE4.out _ cap6 _ HW6.out).mono ?_
          rintro e w4 ⟨rfl, hb7⟩
          have B9 := below_chain B6 hb7 B6.size
          have HV2 := Lib.hid (HV6.out.below hb7 (Nat.le_refl _))
          clear hb7 HV6 HW6 B5 B6
          have hG : G < w4.heap.size := by
            rcases HV2.out with e | ⟨P, o, e, hV⟩
            · have := congrArg List.length e; simp [manyH_len] at this
            · injection e with e; injection e with e1 e2; have := hV.1; omega
          have HN5 : Hid (∀ j u, ((manyH f 3 5).map (Value.int .i64))[j]? = some u → (w4.alloc (.cells #[] 3)).cell? ((⟨G, 0, none⟩ : Addr).add j) = some u) := by
            intro j u hu
            rcases HV2.out with e | ⟨P, o, e, hV⟩
            · have := congrArg List.length e; simp [manyH_len] at this
            · injection e with e; injection e with e1 e2; subst e1; subst e2
              rw [addr_add]
              exact (hV.alloc _).2 j u (many_pre f 3 (26 + b) 5 (by omega) j u hu)
          go_wp2_with (at_builtin; refine wpList_append_own _ rfl _ _ 23 rfl w4.heap.size 3 i0 (.int .i64 0) 1 8 Try.underlying23 HI.out.1 HI.out.2.1 HI.out.2.2.1 HI.out.2.2.2 rfl (by decide) _ 0 [] rfl (World.ownsRow_made w4 #[] 0 (Nat.le_refl _) (by decide) rfl) ⟨G, 0, none⟩ 5 cp2 ((manyH f 3 5).map (Value.int .i64)) rfl (by simp [manyH_len]) HN5.out ?g2 ?g3 ?g4 ?g5 ?_)
          case g2 => simp [manyH, List.range_succ]; exact ⟨rfl, rfl, rfl, rfl, rfl⟩
          case g3 => decide
          case g4 => decide
          case g5 => simp
          intro v' w7 hown5 hg5 _
          obtain ⟨a5, cap5, rfl⟩ := own_form hown5
          have hown5' : w7.ownsRow w4.heap.size 3 1 (.slice a5 5 cap5) 5 ((manyH f 3 5).map (Value.int .i64)) := hown5
          have HK5 := Lib.hid hown5'
          have HL5 := Lib.hid (fun j hj => World.ownsRow.lt HK5.out j hj)
          have B5 := grown_below8 (B9.alloc B9.size (.cells #[] 3)) hg5 (fun j hj => by have q2 : w4.heap.size = j := (by simpa [Value.ownBlock] using hj); have := B9.size; omega) (by simp; have := B9.size; omega)
          have S5 : w4.heap.size + 1 ≤ w7.heap.size := by have := hg5.size; simpa using this
          have HV5 : Hid (ValS w7 (some ⟨G, 0, none⟩) ((manyH f 3 (26 + b)).map (Value.int .i64))) := by
            rcases HV2.out with e | ⟨P, o, e, hV⟩
            · exact .inl e
            · refine .inr ⟨P, o, e, by have := hV.1; omega, fun i u hu => ?_⟩
              rw [← (hV.alloc (.cells #[] 3)).2 i u hu]
              exact hg5.cell_far _ (by simp; have := hV.1; omega) (fun q => by have q2 : P = w4.heap.size := (by simpa [Value.ownBlock] using q); have := hV.1; omega)
          clear hown5 hown5' hg5 HV2 HN5
          have HR5 := Lib.hid (row_news8 (rowAt_alloc w7 #[.int .i64 4095] 3))
          go_wp2_with (at_builtin; refine wpList_append_own _ rfl _ _ 23 rfl w4.heap.size 3 i0 (.int .i64 0) 1 8 Try.underlying23 HI.out.1 HI.out.2.1 HI.out.2.2.1 HI.out.2.2.2 rfl (by decide) _ 5 _ rfl (HK5.out.alloc _) ⟨w7.heap.size, 0, none⟩ 1 1 [.int .i64 4095] rfl rfl HR5.out ?m2 ?m3 ?m4 ?m5 ?_)
          case m2 => rfl
          case m3 => decide
          case m5 => omega
          intro v' w8 hown6 hg6 _
          obtain ⟨a6, cap6, rfl⟩ := own_form hown6
          have HW6 : Hid (ValS w8 a6 ((manyH f 3 5 ++ [4095]).map (Value.int .i64))) := by
            obtain ⟨a', cap', hv, hn, _⟩ := own_news hown6
            injection hv with hv1
            rw [hv1, List.map_append]
            exact hn.vals
          have B6 := grown_below8 (B5.alloc B5.size (.cells #[.int .i64 4095] 3)) hg6 (fun j hj => by have := (HL5.out j hj).1; have := B9.size; omega) (by simp; have := B5.size; omega)
          have HV6 : Hid (ValS w8 (some ⟨G, 0, none⟩) ((manyH f 3 (26 + b)).map (Value.int .i64))) := by
            rcases HV5.out with e | ⟨P, o, e, hV⟩
            · exact .inl e
            · refine .inr ⟨P, o, e, by have := hV.1; have := hg6.size; simp at this; omega, fun i u hu => ?_⟩
              rw [← (hV.alloc (.cells #[.int .i64 4095] 3)).2 i u hu]
              refine hg6.cell_far _ (by simp; have := hV.1; omega) (fun q => ?_)
              have h7 := (HL5.out P q.symm).1
              injection e with e; injection e with e1 e2; omega
          clear hown6 hg6 HK5 HL5 HR5 HV5 hG S5 B9
          go_wp2_with fail
          refine (HE5.out _ cap6 _ HW6.out).mono ?_
          rintro e w10 ⟨rfl, hb7⟩
          have B10 := below_chain B6 hb7 B6.size
          have HV2 := Lib.hid (HV6.out.below hb7 (Nat.le_refl _))
          clear hb7 HV6 HW6 B5 B6
          rcases H1.out with ⟨rfl, q1⟩ | ⟨rfl, q1⟩ <;> rcases H2.out with ⟨rfl, q2⟩ | ⟨rfl, q2⟩
          all_goals
            try have r1 : decide (22 + (a : Int) ≤ 24) = false := decide_eq_false (by omega)
            try have r2 : decide (26 + (b : Int) ≤ 28) = false := decide_eq_false (by omega)
            go_wp2_with fail
            refine (alive08 _).mono ?_
            rintro e w11 ⟨rfl, hb11⟩
            have B11 := below_chain B10 hb11 B10.size
            go_wp2_with fail
            go_ret
            exact ⟨rfl, B11⟩

theorem walk_recordsMany (w : World) (n0 n1 : Int) (hz : ∀ z ∈ [n0, n1], 0 ≤ z ∧ z ≤ 255) (fr : Int) (f0 : 0 ≤ fr) (f1 : fr ≤ 255) :
    Calls Try.prog 9 #[.agg #[.int .u8 n0, .int .u8 n1], .int .u8 fr] w fun e w' => e = .returned (.bool true) ∧ Below w.heap.size w w' := by
  have z0 := hz n0 (by simp)
  have z1 := hz n1 (by simp)
  obtain ⟨f, hf⟩ : ∃ f : Nat, fr = (f : Int) := ⟨fr.toNat, by omega⟩
  obtain ⟨a, ha⟩ : ∃ a : Nat, n0 % 5 = (a : Int) := ⟨(n0 % 5).toNat, by omega⟩
  obtain ⟨b, hb⟩ : ∃ b : Nat, n1 % 5 = (b : Int) := ⟨(n1 % 5).toNat, by omega⟩
  have ha4 : a ≤ 4 := by omega
  have hb4 : b ≤ 4 := by omega
  have fits' : ∀ k : Int, ∀ hs ms, (⟨k, 0, 0, hs, ms, 0⟩ : Rc).fit := fun k hs ms => ⟨by simp, by simp, by simp, by simp⟩
  have R1 := many_ris f 1 (22 + a) (by omega) (by omega) [] (.inl rfl)
  have R2 := many_ris f 3 (26 + b) (by omega) (by omega) [] (.inl rfl)
  rw [List.append_nil] at R1 R2
  have L1 := manyH_len f 1 (22 + a)
  have L2 := manyH_len f 3 (26 + b)
  have L5 : (manyH f 3 5 ++ [4096]).length = 6 := by simp [manyH_len]
  have L6 : (manyH f 3 5 ++ [4095]).length = 6 := by simp [manyH_len]
  have enc : ∀ x : Rc, x.fit → x.hs.length ≤ 100000 → x.ms.length ≤ 100000 → ∃ (Q : ByteArray) (e : Int), (e = 0 ∧ x.ok = true ∨ e = 2 ∧ x.ok = false) ∧ ∀ p cp r cr W, RcS W x p r → Calls Try.prog 11 #[rcV x p cp r cr] W fun e' w' => e' = .returned (.tuple #[.string Q, .int .i64 e]) ∧ Below W.heap.size W w' := by
    intro x h1 h2 h3
    cases hok : x.ok with
    | true => exact ⟨_, 0, .inl ⟨rfl, rfl⟩, fun p cp r cr W h => recenc_yes x p cp r cr W h1 h hok⟩
    | false => exact ⟨_, 2, .inr ⟨rfl, rfl⟩, fun p cp r cr W h => recenc_no x p cp r cr W h2 h3 h hok⟩
  obtain ⟨Q1, e1, O1, C1⟩ := enc ⟨2, 0, 0, manyH f 1 (22 + a), List.replicate (22 + a) false, 0⟩ (fits' _ _ _) (by show (manyH f 1 (22 + a)).length ≤ _; omega) (by simp; omega)
  obtain ⟨Q2, e2, O2, C2⟩ := enc ⟨3, 0, 0, manyH f 3 (26 + b), [], 0⟩ (fits' _ _ _) (by show (manyH f 3 (26 + b)).length ≤ _; omega) (by simp)
  have k1 : (⟨2, 0, 0, manyH f 1 (22 + a), List.replicate (22 + a) false, 0⟩ : Rc).ok = true ↔ 22 + a ≤ 24 := by
    rw [Rc.ok_iff]
    constructor
    · rintro (⟨h, _⟩ | ⟨_, _, _, _, _, h, _⟩ | ⟨h, _⟩ | ⟨h, _⟩)
      · exact absurd h (by simp)
      · simp only [L1] at h; omega
      · exact absurd h (by simp)
      · exact absurd h (by simp)
    · intro h
      exact .inr (.inl ⟨rfl, rfl, rfl, R1, by show 1 ≤ (manyH f 1 (22 + a)).length; omega, by show (manyH f 1 (22 + a)).length ≤ 24; omega, by show (List.replicate (22 + a) false).length = (manyH f 1 (22 + a)).length; rw [L1]; simp⟩)
  have k2 : (⟨3, 0, 0, manyH f 3 (26 + b), [], 0⟩ : Rc).ok = true ↔ 26 + b ≤ 28 := by
    rw [Rc.ok_iff]
    constructor
    · rintro (⟨h, _⟩ | ⟨h, _⟩ | ⟨_, _, _, _, _, h, _⟩ | ⟨h, _⟩)
      · exact absurd h (by simp)
      · exact absurd h (by simp)
      · simp only [L2] at h; omega
      · exact absurd h (by simp)
    · intro h
      exact .inr (.inr (.inl ⟨rfl, rfl, rfl, R2, by show 1 ≤ (manyH f 3 (26 + b)).length; omega, by show (manyH f 3 (26 + b)).length ≤ 28; omega, rfl⟩))
  have k3 : (⟨2, 0, 0, manyH f 1 (22 + a), List.replicate (23 + a) false, 0⟩ : Rc).ok = false := Bool.eq_false_iff.2 fun q => by
    rcases (Rc.ok_iff _).1 q with ⟨h, _⟩ | ⟨_, _, _, _, _, _, h⟩ | ⟨h, _⟩ | ⟨h, _⟩
    · exact absurd h (by simp)
    · simp only [L1, List.length_replicate] at h; omega
    · exact absurd h (by simp)
    · exact absurd h (by simp)
  have k4 : (⟨3, 0, 0, manyH f 3 5 ++ [4096], [], 0⟩ : Rc).ok = false := Bool.eq_false_iff.2 fun q => by
    rcases (Rc.ok_iff _).1 q with ⟨h, _⟩ | ⟨h, _⟩ | ⟨_, _, _, h, _⟩ | ⟨h, _⟩
    · exact absurd h (by simp)
    · exact absurd h (by simp)
    · have := (risOk_small h 4096 (by simp)).2; omega
    · exact absurd h (by simp)
  have R5 : risOk (manyH f 3 5 ++ [4095]) = true := many_ris f 3 5 (by omega) (by omega) [4095] (.inr ⟨4095, rfl, by omega, by omega, by omega⟩)
  have k5 : (⟨3, 0, 0, manyH f 3 5 ++ [4095], [], 0⟩ : Rc).ok = true := (Rc.ok_iff _).2 (.inr (.inr (.inl ⟨rfl, rfl, rfl, R5, by show 1 ≤ (manyH f 3 5 ++ [4095]).length; omega, by show (manyH f 3 5 ++ [4095]).length ≤ 28; omega, rfl⟩)))
  refine recMany_core w n0 n1 fr a b f ha hb ha4 hb4 hf (by omega) z0 z1 e1 e2 Q1 Q2 (tx (⟨3, 0, 0, manyH f 3 5 ++ [4095], [], 0⟩ : Rc).bytes) ?_ ?_ (Lib.hid fun p cp r cr W h1 h2 => ?_) (Lib.hid fun p cp W h1 => ?_) (Lib.hid fun p cp r cr W h1 h2 => ?_) (Lib.hid fun p cp W h1 => ?_) (Lib.hid fun p cp W h1 => ?_)
  · show _ ∨ _
    rcases O1 with ⟨h1, h2⟩ | ⟨h1, h2⟩
    · exact .inl ⟨h1, by have := k1.1 h2; omega⟩
    · exact .inr ⟨h1, fun q => by rw [k1.2 (by omega)] at h2; cases h2⟩
  · show _ ∨ _
    rcases O2 with ⟨h1, h2⟩ | ⟨h1, h2⟩
    · exact .inl ⟨h1, by have := k2.1 h2; omega⟩
    · exact .inr ⟨h1, fun q => by rw [k2.2 (by omega)] at h2; cases h2⟩
  · have := C1 p cp r cr W ⟨h1, h2⟩
    simp only [rcV, L1, List.length_replicate] at this
    exact this
  · have := C2 p cp none 0 W ⟨h1, .inl rfl⟩
    simp only [rcV, L2, List.length_nil] at this
    exact this
  · have := recenc_no ⟨2, 0, 0, manyH f 1 (22 + a), List.replicate (23 + a) false, 0⟩ p cp r cr W (by show (manyH f 1 (22 + a)).length ≤ _; omega) (by simp; omega) ⟨h1, h2⟩ k3
    simp only [rcV, L1, List.length_replicate] at this
    exact this
  · have := recenc_no ⟨3, 0, 0, manyH f 3 5 ++ [4096], [], 0⟩ p cp none 0 W (by show (manyH f 3 5 ++ [4096]).length ≤ _; omega) (by simp) ⟨h1, .inl rfl⟩ k4
    simp only [rcV, L5, List.length_nil] at this
    exact this
  · have := recenc_yes ⟨3, 0, 0, manyH f 3 5 ++ [4095], [], 0⟩ p cp none 0 W (fits' _ _ _) ⟨h1, .inl rfl⟩ k5
    simp only [rcV, L6, List.length_nil] at this
    exact this

/-! ### the frame (printed by mklaw.py) -/

set_option maxRecDepth 100000 in
theorem lifted_recordsMany (os : Os) (started : os.Started) (H : Type) (enc : TypeId × Value → H) :
    ReturnsInHanded {} Try.checked os 9 .any (Rows.recordsManySpec.pre6 enc Try.prog Try.f9 Rows.recordsManyRow.domain false) (Rows.recordsManySpec.post enc Try.prog Try.f9 false true false false) := by
  refine law_step (C := Try.checked) (tb := 4) (by kernel_rfl) (by kernel_rfl) started (by kernel_rfl) Try.func9 rfl Try.underlying4 rfl ?_ ?_
    (ChangeSpec.witness6 (enc := enc) (C := Try.checked) false ⟨#[], #[.agg #[.int .u8 0, .int .u8 0], .int .u8 0], []⟩ 8 (by kernel_rfl) (by kernel_rfl) (by kernel_rfl) (by kernel_rfl)) ?_
  · intro ds hl
    match ds, hl with
    | [d0, d1], _ => rfl
  · intro t ht
    rw [show Try.f9.params.toList = [46, 5] from by rw [Try.params9]] at ht
    simp only [List.mem_cons, List.not_mem_nil, or_false] at ht
    rcases ht with rfl | rfl
    · exact ⟨by kernel_rfl, of_decide_eq_true (by kernel_rfl)⟩
    · exact ⟨by kernel_rfl, of_decide_eq_true (by kernel_rfl)⟩
  · intro W args hG
    rw [show Try.f9.params.toList = [46, 5] from by rw [Try.params9]] at hG
    obtain ⟨v0, v1, rfl, g0, g1⟩ := gotAll_args2 hG
    obtain ⟨zs0, rfl, zl0, zh0⟩ := got_flat (k := .u8) (n := 2) (by kernel_rfl) g0
    obtain ⟨z0_0, z0_1, rfl⟩ : ∃ z0_0 z0_1, zs0 = [z0_0, z0_1] := by
      match zs0, zl0 with
      | [z0_0, z0_1], _ => exact ⟨z0_0, z0_1, rfl⟩
    obtain ⟨a1, rfl, b1, c1⟩ := got_u8 Try.underlying5 g1
    exact walk_recordsMany W z0_0 z0_1 (fun z hz => has_u8 (zh0 z hz)) a1 b1 c1

theorem recordsMany_over : Rows.recordsManyRow.holds Try.pinned (OpenSpec.ofChange Rows.recordsManySpec) :=
  OpenClaim.holds_of_wide 9 Try.f9 rfl rfl rfl rfl rfl rfl rfl ⟨rfl, rfl, rfl, rfl, rfl⟩ rfl rfl rfl rfl rfl (by kernel_rfl) Try.func9 (by kernel_rfl)
    (of_decide_eq_true (by kernel_rfl)) (by unfold Func.isWrapper; first | (rw [if_pos (by decide +kernel)]; kernel_rfl) | (rw [if_neg (by decide +kernel)]; exact ⟨rfl, rfl⟩))
    (fun os started H enc _ => lifted_recordsMany os started H enc)

theorem recordsMany_holds : Rows.RecordsManySaid := recordsMany_over
#print axioms recordsMany_holds

end Go.Proofs.Ytfgnemddamebaaa
