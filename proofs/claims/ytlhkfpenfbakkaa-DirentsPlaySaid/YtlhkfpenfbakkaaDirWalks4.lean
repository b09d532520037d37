/- Walks: the list of a block of entries. -/
import Derived.Test.YtlhkfpenfbakkaaDirWalks3
set_option linter.unusedVariables false
set_option linter.unusedSimpArgs false
set_option maxRecDepth 100000
namespace Go.Proofs.Ytlhkfpenfbakkaa
open Go.RowKit Go.Joins

theorem parse_cut (c : UInt8) (r : List UInt8) (hc : c ≠ 0) (hr : r.length < 4 + c.toNat) : parseR (c :: r).length (c :: r) = none := by
  rw [List.length_cons, parseR, if_neg hc, if_pos hr]
theorem parse_stop (r : List UInt8) (h : r = [] ∨ ∃ t, r = 0 :: t) : parseR r.length r = some [] := by
  rcases h with rfl | ⟨t, rfl⟩
  · rfl
  · rw [List.length_cons, parseR, if_pos rfl]

theorem bts_drop {s : ByteArray} {k : Nat} (h : k < s.size) : (bts s).drop k = (s[k]'h) :: (bts s).drop (k + 1) := by
  have hl : k < (bts s).length := by rw [bts_length]; exact h
  rw [List.drop_eq_getElem_cons hl]
  congr 1
theorem bts_extract (s : ByteArray) (a b : Nat) : bts (s.extract a b) = ((bts s).drop a).take (b - a) := by
  simp [bts, ByteArray.data_extract, List.drop_take]
theorem get4 {s : ByteArray} {k : Nat} (h : k + 5 ≤ s.size) : getIOk s ((k : Int) + 1) 4 = true ∧ getIV s ((k : Int) + 1) 4 = (leVal (((bts s).drop (k + 1)).take 4) : Nat) := by
  have hf : fits s.size ((k : Int) + 1) 4 = true := fits_iff.2 ⟨by omega, by omega, by omega⟩
  have ok := getIOk_small hf (by decide)
  refine ⟨ok, ?_⟩
  rw [getIV, if_pos ok, getL]
  have e1 : ((k : Int) + 1).toNat = k + 1 := by omega
  rw [e1]
  rfl
theorem get4_no {s : ByteArray} {k : Nat} (h : ¬ k + 5 ≤ s.size) : getIOk s ((k : Int) + 1) 4 = false := by
  rw [getIOk]
  have hf : fits s.size ((k : Int) + 1) 4 = false := by
    rw [Bool.eq_false_iff]
    intro h'
    have := fits_iff.1 h'
    omega
  rw [hf]; rfl

/-- what Parse answers -/
def ParseP (s : ByteArray) (w : World) (e : Ending) (w' : World) : Prop :=
  ((∃ l a cap, parseP s = some l ∧ e = .returned (.tuple #[.slice a (List.length l) cap, .int .i64 0]) ∧ l.length ≤ cap ∧ w'.ownsRow w.heap.size 25 2 (.slice a l.length cap) l.length (l.flatMap De.cells)) ∨
    (parseP s = none ∧ e = .returned (.tuple #[.slice none 0 0, .int .i64 80]))) ∧ Below w.heap.size w w'

theorem info_de : (Try.prog.info? 25).map (fun i => (i.zero, i.size, i.bytes)) = some (some (.agg #[.string ByteArray.empty, .int .i64 0]), 2, 24) := by kernel_rfl

/-- how far the reading has come -/
def ParseAt (s : ByteArray) (k : Nat) (L : List De) : Prop := parseR (bts s).length (bts s) = (parseR ((bts s).drop k).length ((bts s).drop k)).map (L ++ ·)
theorem parse_at0 (s : ByteArray) : ParseAt s 0 [] := by
  unfold ParseAt
  rw [List.drop_zero]
  cases parseR (bts s).length (bts s) <;> simp
theorem ParseAt.stop {s : ByteArray} {k : Nat} {L : List De} (h : ParseAt s k L) (hs : (bts s).drop k = [] ∨ ∃ t, (bts s).drop k = 0 :: t) : parseP s = if packE L = 0 ∧ packB L = s then some L else none := by
  unfold ParseAt at h
  rw [parse_stop _ hs] at h
  simp only [Option.map_some, List.append_nil] at h
  unfold parseP
  rw [← bts_length s, h]
theorem ParseAt.cut {s : ByteArray} {k : Nat} {L : List De} (h : ParseAt s k L) (hk : k < s.size) (hc : (s[k]'hk) ≠ 0) (hr : s.size < k + 5 + (s[k]'hk).toNat) : parseP s = none := by
  unfold ParseAt at h
  rw [bts_drop hk, parse_cut _ _ hc (by rw [List.length_drop, bts_length]; omega)] at h
  simp only [Option.map_none] at h
  unfold parseP
  rw [← bts_length s, h]
theorem ParseAt.step {s : ByteArray} {k : Nat} {L : List De} (h : ParseAt s k L) (hk : k < s.size) (hc : (s[k]'hk) ≠ 0) (hr : k + 5 + (s[k]'hk).toNat ≤ s.size) : ParseAt s (k + 5 + (s[k]'hk).toNat) (L ++ [⟨s.extract (k + 5) (k + 5 + (s[k]'hk).toNat), (leVal (((bts s).drop (k + 1)).take 4) : Nat)⟩]) := by
  unfold ParseAt at *
  rw [h, bts_drop hk, parse_step _ _ hc (by rw [List.length_drop, bts_length]; omega)]
  have e1 : (((bts s).drop (k + 1)).drop 4).drop (s[k]'hk).toNat = (bts s).drop (k + 5 + (s[k]'hk).toNat) := by
    rw [List.drop_drop, List.drop_drop]
    congr 1; omega
  have e2 : (tx ((((bts s).drop (k + 1)).drop 4).take (s[k]'hk).toNat)) = s.extract (k + 5) (k + 5 + (s[k]'hk).toNat) := by
    apply ByteArray.ext
    apply Array.toList_inj.1
    show bts (tx _) = bts (s.extract _ _)
    rw [bts_extract, show bts (tx ((((bts s).drop (k + 1)).drop 4).take (s[k]'hk).toNat)) = _ from tx_list _, List.drop_drop]
    congr 1
    omega
  rw [e1, e2]
  cases parseR ((bts s).drop (k + 5 + (s[k]'hk).toNat)).length ((bts s).drop (k + 5 + (s[k]'hk).toNat)) with
  | none => rfl
  | some m => simp

set_option maxHeartbeats 8000000 in
theorem parse_any (s : ByteArray) (w : World) (hs : s.size ≤ 100000) : Calls Try.prog 14 #[.string s] w (ParseP s w) := by
  by_cases h128 : s.size = 128
  · have hs1 : (s.size : Int) = 128 := by omega
    have hq : ((s.size : Int) != 128) = false := by rw [bne_eq_false_iff_eq]; exact hs1
    obtain ⟨i0, hi, hz0, hz1, hz2⟩ := info_parts info_de
    have HI := Lib.hid (And.intro hi (And.intro hz0 (And.intro hz1 hz2)))
    have H128 := Lib.hid h128
    clear hi hz0 hz1 hz2
    go_enter Try.func14, Try.ntmps14
    go_wp2_with fail
    go_loopw [4, 5] (fun ll aa wr => ∃ (k : Nat) (L : List De) (a : Option Addr) (cap : Nat), k ≤ 128 ∧ aa = .int .i64 k ∧ ll = .slice a L.length cap ∧ Hid (wr.ownsRow w.heap.size 25 2 (.slice a L.length cap) L.length (L.flatMap De.cells)) ∧ Hid (ParseAt s k L ∧ L.length ≤ k) ∧ Below w.heap.size w wr) (fun _ aa _ => 128 - (intOf aa).toNat)
    case atStart => exact ⟨0, [], none, 0, by omega, rfl, rfl, World.ownsRow_nil _ _ _ _, ⟨parse_at0 s, by simp⟩, Below.refl _ _⟩
    case round =>
      obtain ⟨k, L, a, cap, hk, rfl, rfl, HK, HL, B⟩ := hrel
      by_cases hlt : k < 128
      · have p0 : (0 : Int) ≤ (k : Int) := by omega
        have p1 : (k : Int) < 128 := by omega
        have hks : k < s.size := by rw [H128.out]; exact hlt
        obtain ⟨c, hc⟩ : ∃ c : UInt8, s[k]'hks = c := ⟨_, rfl⟩
        have hidx : ∀ w, (Instr.index 9 (.string s) (.int .i64 (k : Int))).run Try.prog w = .ok (.int .u8 (c.toNat : Int)) w := by
          intro w
          have hkk : (0 : Int) ≤ (k : Int) ∧ (k : Int) < (s.size : Int) := by omega
          have e1 : ((k : Int)).toNat = k := by omega
          simp [Instr.index, go_sem, Try.underlying9, e1, hks, hc, asIntOf]
        by_cases h0 : c = 0
        · have q0 : ((c.toNat : Int) != 0) = false := by rw [h0]; rfl
          have hstop : (bts s).drop k = [] ∨ ∃ t, (bts s).drop k = 0 :: t := .inr ⟨_, by rw [bts_drop hks, hc, h0]⟩
          have HST := Lib.hid hstop
          clear hc hks h0 hstop
          obtain ⟨a', cap', hv, hnew, _, hcap⟩ := own_newd HK.out
          injection hv with hv1 _ hv3
          subst hv1 hv3
          have HP := Lib.hid (pack_any a cap L wr hnew.vals (by have := HL.out.2; have := H128.out; omega) hcap)
          have HE := Lib.hid (HL.out.1.stop HST.out)
          have HCap := Lib.hid hcap
          clear hnew hcap
          by_cases hpe : packE L = 0
          · have q1 : (packE L != 0) = false := by rw [bne_eq_false_iff_eq]; exact hpe
            by_cases hpb : packB L = s
            · have q2 : ((packB L).toList == s.toList) = true := by rw [hpb]; exact beq_self_eq_true _
              have HR := Lib.hid (show parseP s = some L from by rw [HE.out, if_pos ⟨hpe, hpb⟩])
              unfold PackP at HP
              clear hpe hpb
              generalize packE L = pe at *
              generalize packB L = pb at *
              go_wp2_with fail
              refine HP.out.mono ?_
              rintro e w9 ⟨rfl, hb9⟩
              have B9 := below_chain B hb9 B.size
              have HK9 := Lib.hid (HK.out.kept (row := none) ⟨hb9.os, hb9.tape, hb9.output, hb9.size, fun k hk _ => hb9.block k hk⟩ (by cases (Value.slice a L.length cap).ownBlock <;> simp))
              go_wp2_with fail
              go_ret2
              exact ⟨.inl ⟨L, a, cap, HR.out, rfl, HCap.out, HK9.out⟩, B9⟩
            · have q2 : ((packB L).toList == s.toList) = false := by
                rw [str_eq]
                refine decide_eq_false fun e => hpb ?_
                exact ByteArray.ext (Array.toList_inj.1 e)
              have HR := Lib.hid (show parseP s = none from by rw [HE.out, if_neg (fun h => hpb h.2)])
              unfold PackP at HP
              clear hpe hpb
              generalize packE L = pe at *
              generalize packB L = pb at *
              go_wp2_with fail
              refine HP.out.mono ?_
              rintro e w9 ⟨rfl, hb9⟩
              have B9 := below_chain B hb9 B.size
              go_wp2_with fail
              go_ret2
              exact ⟨.inr ⟨HR.out, rfl⟩, B9⟩
          · have q1 : (packE L != 0) = true := by rw [bne_iff_ne]; exact hpe
            have HR := Lib.hid (show parseP s = none from by rw [HE.out, if_neg (fun h => hpe h.1)])
            unfold PackP at HP
            clear hpe
            generalize packE L = pe at *
            generalize packB L = pb at *
            go_wp2_with fail
            refine HP.out.mono ?_
            rintro e w9 ⟨rfl, hb9⟩
            have B9 := below_chain B hb9 B.size
            go_wp2_with fail
            go_ret2
            exact ⟨.inr ⟨HR.out, rfl⟩, B9⟩
        · have q0 : ((c.toNat : Int) != 0) = true := by
            rw [bne_iff_ne]
            intro e
            refine h0 (UInt8.toNat_inj.1 ?_)
            show c.toNat = 0
            omega
          have hc256 : (c.toNat : Int) ≤ 255 := by have := c.toNat_lt; omega
          have hcu : (c.toNat : Int) < 256 := by omega
          have h0' : s[k]'hks ≠ 0 := by rw [hc]; exact h0
          have hgi := getint_any s ((k : Int) + 1) 4 wr (by rw [H128.out]; unfold maxLen; omega)
          by_cases hfit : k + 5 + c.toNat ≤ 128
          · obtain ⟨g1, g2⟩ := get4 (s := s) (k := k) (by rw [H128.out]; omega)
            rw [g1, g2] at hgi
            have hst := HL.out.1.step hks h0' (by rw [hc, H128.out]; exact hfit)
            rw [hc] at hst
            have HST := Lib.hid hst
            have HG := Lib.hid hgi
            have j1 : ¬ (128 : Int) < (k : Int) + 5 + (c.toNat : Int) := by omega
            have j2 : (k : Int) + 5 + (c.toNat : Int) ≤ 128 := by omega
            have j3 : (k : Int) + 5 ≤ (k : Int) + 5 + (c.toNat : Int) := by omega
            have j4 : (0 : Int) ≤ (k : Int) + 5 := by omega
            have hLL := HL.out.2
            clear hc h0 h0' g1 g2 hst hgi hks
            generalize leVal (((bts s).drop (k + 1)).take 4) = ino at *
            have hcz : (0 : Int) ≤ (c.toNat : Int) := by omega
            have ec : ((k : Int) + 5 + (c.toNat : Int)).toNat = k + 5 + c.toNat := by omega
            go_wp2_with fail
            refine HG.out.mono ?_
            rintro e w1 ⟨rfl, rfl⟩
            have HRw := Lib.hid (row_news4 (rowAt_alloc wr #[.string (s.extract (k + 5) (k + 5 + c.toNat)), .int .i64 (ino : Nat)] 25))
            have HLL := Lib.hid (fun j hj => World.ownsRow.lt HK.out j hj)
            go_wp2_with (at_builtin; refine wpList_append_own _ rfl _ _ 22 rfl w.heap.size 25 i0 (.agg #[.string ByteArray.empty, .int .i64 0]) 2 24 Try.underlying22 HI.out.1 HI.out.2.1 HI.out.2.2.1 HI.out.2.2.2 rfl (by decide) _ L.length _ rfl (HK.out.alloc _) ⟨wr.heap.size, 0, none⟩ 1 1 [.string (s.extract (k + 5) (k + 5 + c.toNat)), .int .i64 (ino : Nat)] rfl rfl HRw.out (by intro u hu; simp at hu; rcases hu with rfl | rfl <;> rfl) (by unfold maxLen; omega) (by omega) (by have := B.size; simp; omega) ?_)
            intro v' w9 hown9 hg9 _
            obtain ⟨a9, cap9, rfl⟩ := own_form hown9
            have B9 := grown_below4 (B.alloc B.size (.cells #[.string (s.extract (k + 5) (k + 5 + c.toNat)), .int .i64 (ino : Nat)] 25)) hg9 (fun j hj => (HLL.out j hj).1) (by have := B.size; simp; omega)
            have HO9 : Hid (w9.ownsRow w.heap.size 25 2 (.slice a9 (L ++ [⟨s.extract (k + 5) (k + 5 + c.toNat), (ino : Nat)⟩] : List De).length cap9) (L ++ [⟨s.extract (k + 5) (k + 5 + c.toNat), (ino : Nat)⟩] : List De).length ((L ++ [⟨s.extract (k + 5) (k + 5 + c.toNat), (ino : Nat)⟩] : List De).flatMap De.cells)) := by
              show World.ownsRow _ _ _ _ _ _ _
              rw [List.length_append, List.flatMap_append]
              exact hown9
            have HL9 : Hid (ParseAt s (k + 5 + c.toNat) (L ++ [⟨s.extract (k + 5) (k + 5 + c.toNat), (ino : Nat)⟩]) ∧ (L ++ [⟨s.extract (k + 5) (k + 5 + c.toNat), (ino : Nat)⟩] : List De).length ≤ k + 5 + c.toNat) := ⟨HST.out, by have := HL.out.2; simp; omega⟩
            clear hown9 hg9 HRw
            go_wp2_with fail
            go_roundw
            case rel => exact ⟨k + 5 + c.toNat, _, a9, cap9, by omega, by go_num, by simp, HO9.out, HL9.out, B9⟩
            case measure => simp [intOf]; omega
          · have HR := Lib.hid (HL.out.1.cut hks h0' (by rw [hc, H128.out]; omega))
            have j1 : (128 : Int) < (k : Int) + 5 + (c.toNat : Int) := by omega
            by_cases h5 : k + 5 ≤ 128
            · obtain ⟨g1, g2⟩ := get4 (s := s) (k := k) (by rw [H128.out]; omega)
              rw [g1] at hgi
              have HG := Lib.hid hgi
              clear hc h0 h0' g1 g2 hgi hks
              go_wp2_with fail
              refine HG.out.mono ?_
              rintro e w1 ⟨rfl, rfl⟩
              go_wp2_with fail
              go_ret2
              exact ⟨.inr ⟨HR.out, rfl⟩, B⟩
            · rw [get4_no (by rw [H128.out]; exact h5)] at hgi
              have HG := Lib.hid hgi
              clear hc h0 h0' hgi hks
              go_wp2_with fail
              refine HG.out.mono ?_
              rintro e w1 ⟨rfl, rfl⟩
              go_wp2_with fail
              go_ret2
              exact ⟨.inr ⟨HR.out, rfl⟩, B⟩
      · obtain rfl : k = 128 := by omega
        have hstop : (bts s).drop 128 = [] ∨ ∃ t, (bts s).drop 128 = 0 :: t := .inl (List.drop_of_length_le (by rw [bts_length, H128.out]; omega))
        have HST := Lib.hid hstop
        clear hstop
        obtain ⟨a', cap', hv, hnew, _, hcap⟩ := own_newd HK.out
        injection hv with hv1 _ hv3
        subst hv1 hv3
        have HP := Lib.hid (pack_any a cap L wr hnew.vals (by have := HL.out.2; have := H128.out; omega) hcap)
        have HE := Lib.hid (HL.out.1.stop HST.out)
        have HCap := Lib.hid hcap
        clear hnew hcap
        by_cases hpe : packE L = 0
        · have q1 : (packE L != 0) = false := by rw [bne_eq_false_iff_eq]; exact hpe
          by_cases hpb : packB L = s
          · have q2 : ((packB L).toList == s.toList) = true := by rw [hpb]; exact beq_self_eq_true _
            have HR := Lib.hid (show parseP s = some L from by rw [HE.out, if_pos ⟨hpe, hpb⟩])
            unfold PackP at HP
            clear hpe hpb
            generalize packE L = pe at *
            generalize packB L = pb at *
            go_wp2_with fail
            refine HP.out.mono ?_
            rintro e w9 ⟨rfl, hb9⟩
            have B9 := below_chain B hb9 B.size
            have HK9 := Lib.hid (HK.out.kept (row := none) ⟨hb9.os, hb9.tape, hb9.output, hb9.size, fun k hk _ => hb9.block k hk⟩ (by cases (Value.slice a L.length cap).ownBlock <;> simp))
            go_wp2_with fail
            go_ret2
            exact ⟨.inl ⟨L, a, cap, HR.out, rfl, HCap.out, HK9.out⟩, B9⟩
          · have q2 : ((packB L).toList == s.toList) = false := by
              rw [str_eq]
              refine decide_eq_false fun e => hpb ?_
              exact ByteArray.ext (Array.toList_inj.1 e)
            have HR := Lib.hid (show parseP s = none from by rw [HE.out, if_neg (fun h => hpb h.2)])
            unfold PackP at HP
            clear hpe hpb
            generalize packE L = pe at *
            generalize packB L = pb at *
            go_wp2_with fail
            refine HP.out.mono ?_
            rintro e w9 ⟨rfl, hb9⟩
            have B9 := below_chain B hb9 B.size
            go_wp2_with fail
            go_ret2
            exact ⟨.inr ⟨HR.out, rfl⟩, B9⟩
        · have q1 : (packE L != 0) = true := by rw [bne_iff_ne]; exact hpe
          have HR := Lib.hid (show parseP s = none from by rw [HE.out, if_neg (fun h => hpe h.1)])
          unfold PackP at HP
          clear hpe
          generalize packE L = pe at *
          generalize packB L = pb at *
          go_wp2_with fail
          refine HP.out.mono ?_
          rintro e w9 ⟨rfl, hb9⟩
          have B9 := below_chain B hb9 B.size
          go_wp2_with fail
          go_ret2
          exact ⟨.inr ⟨HR.out, rfl⟩, B9⟩
  · have hq : ((s.size : Int) != 128) = true := by rw [bne_iff_ne]; omega
    have HN : Hid (parseP s = none) := by
      show _ = _
      cases h : parseP s with
      | none => rfl
      | some l => exact absurd (parseP_size h) h128
    clear h128
    go_enter Try.func14, Try.ntmps14
    go_wp2_with fail
    go_ret2
    exact ⟨.inr ⟨HN.out, rfl⟩, Below.refl _ _⟩

end Go.Proofs.Ytlhkfpenfbakkaa
