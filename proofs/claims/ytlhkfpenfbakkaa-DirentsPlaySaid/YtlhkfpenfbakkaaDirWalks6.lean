/- Walks: blocks of entries: Find, Room, Insert, Remove. -/
import Derived.Test.YtlhkfpenfbakkaaDirDel
set_option linter.unusedVariables false
set_option linter.unusedSimpArgs false
set_option maxRecDepth 100000
namespace Go.Proofs.Ytlhkfpenfbakkaa
open Go.RowKit Go.Joins

theorem named_any (x : ByteArray) (w : World) : Calls Try.prog 36 #[.string x] w fun e w' => e = .returned (.func (.func 44) #[] #[.pointer (some ⟨w.heap.size, 0, none⟩)]) ∧ w' = w.alloc (.cells #[.string x] 9) := by
  go_enter Try.func36, Try.ntmps36
  go_wp2_with fail
  go_ret
  exact ⟨rfl, rfl⟩

theorem len_many : ∀ l : List De, l.length ≤ many l
  | [] => Nat.le_refl _
  | d :: l => by have := len_many l; rw [many_cons, List.length_cons, De.sz]; omega

/-- Parse, with a list in both cases -/
theorem parse_list (s : ByteArray) (w : World) (hs : s.size ≤ 100000) : Calls Try.prog 14 #[.string s] w fun e w' => (∃ l a cap, l = (parseP s).getD [] ∧ e = .returned (.tuple #[.slice a (List.length l) cap, .int .i64 (if (parseP s).isSome then 0 else 80)]) ∧ l.length ≤ cap ∧ l.length ≤ 1000 ∧ w'.ownsRow w.heap.size 25 2 (.slice a l.length cap) l.length (l.flatMap De.cells)) ∧ Below w.heap.size w w' := by
  refine (parse_any s w hs).mono ?_
  rintro e w' ⟨h | ⟨h1, h2⟩, hb⟩
  · obtain ⟨l, a, cap, h1, h2, h3, h4⟩ := h
    refine ⟨⟨l, a, cap, by rw [h1]; rfl, by rw [h1]; exact h2, h3, ?_, h4⟩, hb⟩
    have := (packE_ok.1 (parseP_ok h1).1).2.2.2
    have h6 := entsB_len l
    have := len_many l
    omega
  · exact ⟨⟨[], none, 0, by rw [h1]; rfl, by rw [h1]; exact h2, Nat.le_refl _, by simp, World.ownsRow_nil _ _ _ _⟩, hb⟩

theorem find_of_idx (p : De → Bool) : ∀ l : List De, l.find? p = match l.findIdx? p with | some k => l[k]? | none => none
  | [] => rfl
  | d :: l => by
    rw [List.find?_cons, List.findIdx?_cons]
    cases hp : p d with
    | true => simp
    | false =>
      have ih := find_of_idx p l
      simp only [Bool.false_eq_true, if_false]
      rw [ih]
      cases l.findIdx? p <;> simp

set_option maxHeartbeats 1000000 in
theorem find_any (s x : ByteArray) (w : World) (hs : s.size ≤ 100000) : Calls Try.prog 16 #[.string s, .string x] w fun e w' => e = .returned (.tuple #[.int .i64 (findP s x).1, .bool (findP s x).2]) ∧ Below w.heap.size w w' := by
  have HP := Lib.hid (parse_list s w hs)
  go_enter Try.func16, Try.ntmps16
  go_wp2_with fail
  refine HP.out.mono ?_
  rintro e w1 ⟨⟨l, a, cap, hl, rfl, h1, h2, h3⟩, hb1⟩
  have HL := Lib.hid hl
  obtain ⟨a', cap', hv, hnew, _, _⟩ := own_newd h3
  injection hv with hv1 _ hv3
  subst hv1 hv3
  have hb2 : Below w1.heap.size w1 (w1.alloc (.cells #[.string x] 9)) := (Below.refl _ _).alloc (Nat.le_refl _) _
  have B2 := below_chain hb1 hb2 hb1.size
  have hV2 := hnew.vals.below hb2 (Nat.le_refl _)
  have HI := Lib.hid (index3 a cap l w1.heap.size x _ hV2 (by omega) (World.cell?_alloc_new _ _ _ 0))
  have HV := Lib.hid hV2
  have hfi := find_of_idx (deP x) l
  have HF : Hid (findP s x = match l.find? (deP x) with | some d => (d.ino, true) | none => (0, false)) := by
    show _ = _
    rw [findP, HL.out]
    cases List.find? (deP x) ((parseP s).getD []) <;> rfl
  rw [hfi] at HF
  clear hl h3 hnew hV2 hb1 hb2 hfi HP HL
  generalize (if (parseP s).isSome = true then (0 : Int) else 80) = pe at *
  go_wp2_with fail
  refine (named_any x w1).mono ?_
  rintro e w2 ⟨rfl, hw⟩
  subst hw
  go_wp2_with fail
  refine HI.out.mono ?_
  rintro e w3 ⟨rfl, hb3⟩
  have B3 := below_chain B2 hb3 B2.size
  have hV3 := HV.out.below hb3 (Nat.le_refl _)
  cases hf : l.findIdx? (deP x) with
  | none =>
    rw [hf] at HF
    rw [show fIdx none = -1 from rfl]
    clear hf hb3 hV3 HI HV B2
    go_wp2_with fail
    go_ret2
    exact ⟨by rw [HF.out]; rfl, B3⟩
  | some k =>
    rw [hf] at HF
    rw [show fIdx (some k) = (k : Int) from rfl]
    rw [List.findIdx?_eq_some_iff_getElem] at hf
    obtain ⟨hk, _, _⟩ := hf
    have hgk : l[k]? = some l[k] := List.getElem?_eq_getElem hk
    simp only [hgk] at HF
    obtain ⟨P, o, rfl, hP, d0, d1⟩ := de_cells hV3 hgk
    have i1 : (0 : Int) ≤ (k : Int) := by omega
    have i2 : (k : Int) < (l.length : Int) := by omega
    clear hb3 hV3 HI HV B2 hgk d0
    generalize l[k] = d at *
    go_wp2_with fail
    go_ret2
    exact ⟨by rw [HF.out]; rfl, B3⟩

set_option maxHeartbeats 1000000 in
theorem room_any (s : ByteArray) (w : World) (hs : s.size ≤ 100000) : Calls Try.prog 18 #[.string s] w fun e w' => e = .returned (.int .i64 (roomP s)) ∧ Below w.heap.size w w' := by
  have HP := Lib.hid (parse_any s w hs)
  unfold ParseP at HP
  go_enter Try.func18, Try.ntmps18
  go_wp2_with fail
  refine HP.out.mono ?_
  rintro e w1 ⟨h | ⟨h1, rfl⟩, hb1⟩
  · obtain ⟨l, a, cap, h1, rfl, h3, h4⟩ := h
    obtain ⟨a', cap', hv, hnew, _, _⟩ := own_newd h4
    injection hv with hv1 _ hv3
    subst hv1 hv3
    have HV := Lib.hid hnew.vals
    have hok := packE_ok.1 (parseP_ok h1).1
    have HO := Lib.hid hok
    have HR := Lib.hid (show roomP s = 128 - (many l : Int) from by rw [roomP, h1])
    have hm := hok.2.2.2
    have hll := len_many l
    have hl' : (l.length : Int) ≤ 128 := by omega
    clear h1 h3 h4 hnew hok HP
    go_wp2_with fail
    have B1 := hb1
    clear hb1
    go_loopw [5, 17] (fun mm jj wr => ∃ k : Nat, k ≤ l.length ∧ jj = .int .i64 k ∧ mm = .int .i64 (128 - (many (l.take k) : Nat)) ∧ Below w1.heap.size w1 wr) (fun _ jj _ => l.length - (intOf jj).toNat)
    case atStart => exact ⟨0, by omega, rfl, rfl, Below.refl _ _⟩
    case round =>
      obtain ⟨k, hk, rfl, rfl, B⟩ := hrel
      by_cases hlt : k < l.length
      · obtain ⟨x, hx⟩ : ∃ x, l[k]? = some x := ⟨_, List.getElem?_eq_getElem hlt⟩
        obtain ⟨P, o, rfl, hP, d0, d1⟩ := de_cells (HV.out.below B (Nat.le_refl _)) hx
        have i1 : (k : Int) < (l.length : Int) := by omega
        have i2 : (0 : Int) ≤ (k : Int) := by omega
        have hbA : Below wr.heap.size wr (wr.alloc (.cells #[.string x.nm, .int .i64 x.ino] 25)) := (Below.refl _ _).alloc (Nat.le_refl _) _
        have BA := below_chain B hbA B.size
        have hsz := ofNat_size (HO.out.1 x (List.mem_of_getElem? hx))
        have HS := Lib.hid (size_any x (wr.alloc (.cells #[.string x.nm, .int .i64 x.ino] 25)) (by omega))
        change Hid (Calls _ _ #[.agg #[.string x.nm, .int .i64 x.ino]] _ _) at HS
        have HMS := Lib.hid (show many (l.take (k + 1)) = many (l.take k) + x.sz from by rw [take_snoc hx, many_append, many_one])
        have hmk : many (l.take k) ≤ 128 := Nat.le_trans (many_sub (List.take_sublist _ _)) hm
        have hsx : x.sz ≤ 37 := by rw [De.sz]; omega
        clear hx hsz hbA
        go_wp2_with fail
        refine HS.out.mono ?_
        rintro e w3 ⟨rfl, hb3⟩
        have B5 := below_chain BA hb3 BA.size
        clear HS hb3 BA d0 d1
        go_wp2_with fail
        go_roundw
        case rel => exact ⟨k + 1, by omega, by go_num, by rw [HMS.out]; exact congrArg (Value.int .i64) (by omega), B5⟩
        case measure => simp [intOf]; omega
      · obtain rfl : k = l.length := by omega
        rw [List.take_length]
        have hnl : ¬ ((l.length : Int) < (l.length : Int)) := by omega
        go_wp2_with fail
        go_ret
        exact ⟨by rw [HR.out]; rfl, below_chain B1 B B1.size⟩
  · have HR := Lib.hid (show roomP s = 0 from by rw [roomP, h1])
    clear h1 HP
    go_wp2_with fail
    go_ret
    exact ⟨by rw [HR.out]; rfl, hb1⟩

theorem agg_cells (x : De) : x.agg = .agg #[.string x.nm, .int .i64 x.ino] := rfl

set_option maxHeartbeats 1000000 in
theorem insert_any (s : ByteArray) (x : De) (w : World) (hs : s.size ≤ 100000) : Calls Try.prog 20 #[.string s, x.agg] w fun e w' => e = .returned (.tuple #[.string (insertP s x).1, .int .i64 (insertP s x).2]) ∧ Below w.heap.size w w' := by
  have hb0 : Below w.heap.size w (w.alloc (.cells #[.string x.nm, .int .i64 x.ino] 25)) := (Below.refl _ _).alloc (Nat.le_refl _) _
  have HP := Lib.hid (parse_any s (w.alloc (.cells #[.string x.nm, .int .i64 x.ino] 25)) hs)
  unfold ParseP at HP
  obtain ⟨i0, hi, hz0, hz1, hz2⟩ := info_parts info_de
  have HI := Lib.hid (And.intro hi (And.intro hz0 (And.intro hz1 hz2)))
  rw [agg_cells]
  clear hi hz0 hz1 hz2
  go_enter Try.func20, Try.ntmps20
  go_wp2_with fail
  refine HP.out.mono ?_
  rintro e w1 ⟨h | ⟨h1, rfl⟩, hb1⟩
  · obtain ⟨l, a, cap, h1, rfl, h3, h4⟩ := h
    have HR := Lib.hid (show insertP s x = (packB (l ++ [x]), packE (l ++ [x])) from by rw [insertP, h1])
    have hm := (packE_ok.1 (parseP_ok h1).1).2.2.2
    have hll := len_many l
    have hl' : l.length ≤ 128 := by omega
    have B1 := below_chain hb0 hb1 hb0.size
    have e0 : w1.cell? ⟨w.heap.size, 0, none⟩ = some (.string x.nm) := by rw [hb1.cell (p := ⟨w.heap.size, 0, none⟩) (by simp)]; exact World.cell?_alloc_new _ _ _ 0
    have e1 : w1.cell? ⟨w.heap.size, 1, none⟩ = some (.int .i64 x.ino) := by rw [hb1.cell (p := ⟨w.heap.size, 1, none⟩) (by simp)]; exact World.cell?_alloc_new _ _ _ 1
    have HK := Lib.hid h4
    have HLt := Lib.hid (fun j hj => World.ownsRow.lt HK.out j hj)
    have hsz1 := hb1.size
    simp only [World.size_alloc] at hsz1
    have HRw := Lib.hid (row_news4 (rowAt_alloc w1 #[.string x.nm, .int .i64 x.ino] 25))
    clear h1 h3 h4 hm hll HP hb0 hb1
    go_wp2_with (at_builtin; refine wpList_append_own _ rfl _ _ 22 rfl (w.heap.size + 1) 25 i0 (.agg #[.string ByteArray.empty, .int .i64 0]) 2 24 Try.underlying22 HI.out.1 HI.out.2.1 HI.out.2.2.1 HI.out.2.2.2 rfl (by decide) _ l.length _ rfl ((show w1.ownsRow (w.heap.size + 1) 25 2 (.slice a l.length cap) l.length (l.flatMap De.cells) from by have := HK.out; rw [World.size_alloc] at this; exact this).alloc _) ⟨w1.heap.size, 0, none⟩ 1 1 [.string x.nm, .int .i64 x.ino] rfl rfl HRw.out (by intro u hu; simp at hu; rcases hu with rfl | rfl <;> rfl) (by unfold maxLen; omega) (by omega) (by simp; omega) ?_)
    intro v' w9 hown9 hg9 _
    obtain ⟨a9, cap9, rfl⟩ := own_form hown9
    have B9 := grown_below4 (B1.alloc B1.size (.cells #[.string x.nm, .int .i64 x.ino] 25)) hg9 (fun j hj => by have := (HLt.out j hj).1; simp at this; omega) (by simp; omega)
    have HO9 : Hid (w9.ownsRow (w.heap.size + 1) 25 2 (.slice a9 (l ++ [x]).length cap9) (l ++ [x]).length ((l ++ [x]).flatMap De.cells)) := by
      show World.ownsRow _ _ _ _ _ _ _
      rw [List.length_append, List.flatMap_append]
      exact hown9
    obtain ⟨a', cap', hv, hnew, _, hcap⟩ := own_newd HO9.out
    injection hv with hv1 _ hv3
    subst hv1 hv3
    have hpk := pack_any a9 cap9 (l ++ [x]) w9 hnew.vals (by simp; omega) hcap
    have hlen : (l ++ [x]).length = l.length + 1 := by simp
    rw [hlen] at hpk
    have HPK := Lib.hid hpk
    unfold PackP at HPK
    clear hown9 hg9 HRw hnew hcap hpk hlen
    go_wp2_with fail
    refine HPK.out.mono ?_
    rintro e w10 ⟨rfl, hb10⟩
    have B10 := below_chain B9 hb10 B9.size
    generalize packB (l ++ [x]) = pb at *
    generalize packE (l ++ [x]) = pe at *
    go_wp2_with fail
    go_ret2
    exact ⟨by rw [HR.out]; rfl, B10⟩
  · have HR := Lib.hid (show insertP s x = (tx [], 80) from by rw [insertP, h1])
    have B1 := below_chain hb0 hb1 hb0.size
    clear h1 HP
    go_wp2_with fail
    go_ret2
    exact ⟨by rw [HR.out]; rfl, B1⟩

set_option maxHeartbeats 1000000 in
theorem remove_any (s x : ByteArray) (w : World) (hs : s.size ≤ 100000) : Calls Try.prog 22 #[.string s, .string x] w fun e w' => e = .returned (.tuple #[.string (removeP s x).1, .bool (removeP s x).2]) ∧ Below w.heap.size w w' := by
  have HP := Lib.hid (parse_any s w hs)
  unfold ParseP at HP
  go_enter Try.func22, Try.ntmps22
  go_wp2_with fail
  refine HP.out.mono ?_
  rintro e w1 ⟨h | ⟨h1, rfl⟩, hb1⟩
  · obtain ⟨l, a, cap, h1, rfl, h3, h4⟩ := h
    have hm := (packE_ok.1 (parseP_ok h1).1).2.2.2
    have hll := len_many l
    have hl' : l.length ≤ 128 := by omega
    have HK := Lib.hid h4
    obtain ⟨a', cap', hv, hnew, _, _⟩ := own_newd h4
    injection hv with hv1 _ hv3
    subst hv1 hv3
    have hb2 : Below w1.heap.size w1 (w1.alloc (.cells #[.string x] 9)) := (Below.refl _ _).alloc (Nat.le_refl _) _
    have B2 := below_chain hb1 hb2 hb1.size
    have hV2 := hnew.vals.below hb2 (Nat.le_refl _)
    have HIx := Lib.hid (index3 a cap l w1.heap.size x _ hV2 (by omega) (World.cell?_alloc_new _ _ _ 0))
    have HK2 := Lib.hid (HK.out.alloc (.cells #[.string x] 9))
    cases hf : l.findIdx? (deP x) with
    | none =>
      have HR := Lib.hid (show removeP s x = (s, false) from by rw [removeP, h1]; simp only [placeP, hf])
      rw [hf] at HIx
      rw [show fIdx none = -1 from rfl] at HIx
      clear h1 h3 h4 hm hll HP hb1 hb2 hnew hV2 hf
      go_wp2_with fail
      refine (named_any x w1).mono ?_
      rintro e w2 ⟨rfl, hw⟩
      subst hw
      go_wp2_with fail
      refine HIx.out.mono ?_
      rintro e w3 ⟨rfl, hb3⟩
      have B3 := below_chain B2 hb3 B2.size
      go_wp2_with fail
      go_ret2
      exact ⟨by rw [HR.out]; rfl, B3⟩
    | some k =>
      have HR := Lib.hid (show removeP s x = (packB (l.take k ++ l.drop (k + 1)), true) from by rw [removeP, h1]; simp only [placeP, hf])
      rw [hf] at HIx
      rw [show fIdx (some k) = (k : Int) from rfl] at HIx
      rw [List.findIdx?_eq_some_iff_getElem] at hf
      obtain ⟨hk, _, _⟩ := hf
      rcases HK2.out.2 with ⟨_, h0⟩ | ⟨g, cap', cur, hv, hg, _⟩
      · omega
      injection hv with hv1 _ hv3
      subst hv1 hv3
      have k0 : ¬ (k : Int) < 0 := by omega
      have k1 : (k : Int) ≤ 128 := by omega
      have hsz := hb1.size
      have hcl := h3
      clear h1 h3 h4 hm hll HP hb1 hb2 hnew hV2
      go_wp2_with fail
      refine (named_any x w1).mono ?_
      rintro e w2 ⟨rfl, hw⟩
      subst hw
      go_wp2_with fail
      refine HIx.out.mono ?_
      rintro e w3 ⟨rfl, hb3⟩
      have B3 := below_chain B2 hb3 B2.size
      have hK3 := HK2.out.kept (row := none) ⟨hb3.os, hb3.tape, hb3.output, hb3.size, fun k hk _ => hb3.block k hk⟩ (.inr (by simp [Value.ownBlock]))
      have HD := Lib.hid (delete_at w.heap.size g cap l k w3 hk hK3 (by omega))
      clear hb3 hK3 HIx
      go_wp2_with fail
      refine HD.out.mono ?_
      rintro e w4 ⟨rfl, hR4, hg4⟩
      have B4 := grown_below4 B3 hg4 (fun j hj => by injection hj with hj; omega) B3.size
      have hll2 : (l.take k ++ l.drop (k + 1)).length ≤ 128 := by simp; omega
      have hpk := pack_any (some ⟨g, 0, none⟩) cap (l.take k ++ l.drop (k + 1)) w4 (valD_row (rest := []) (by rw [List.append_nil]; exact hR4)) (by omega) (by have := hcl; simp; omega)
      have HPK := Lib.hid hpk
      unfold PackP at HPK
      clear hR4 hg4 HD hpk
      generalize l.take k ++ l.drop (k + 1) = l2 at *
      generalize packB l2 = pb at *
      generalize packE l2 = pe at *
      go_wp2_with fail
      refine HPK.out.mono ?_
      rintro e w5 ⟨rfl, hb5⟩
      have B5 := below_chain B4 hb5 B4.size
      go_wp2_with fail
      go_ret2
      exact ⟨by rw [HR.out]; rfl, B5⟩
  · have HR := Lib.hid (show removeP s x = (s, false) from by rw [removeP, h1])
    have hb2 : Below w1.heap.size w1 (w1.alloc (.cells #[.string x] 9)) := (Below.refl _ _).alloc (Nat.le_refl _) _
    have B2 := below_chain hb1 hb2 hb1.size
    have HIx := Lib.hid (index3 none 0 [] w1.heap.size x (w1.alloc (.cells #[.string x] 9)) (.inl rfl) (by simp) (World.cell?_alloc_new _ _ _ 0))
    clear h1 HP
    go_wp2_with fail
    refine (named_any x w1).mono ?_
    rintro e w2 ⟨rfl, hw⟩
    subst hw
    go_wp2_with fail
    refine HIx.out.mono ?_
    rintro e w3 ⟨rfl, hb3⟩
    rw [show fIdx (List.findIdx? (deP x) []) = -1 from rfl]
    have B3 := below_chain B2 hb3 B2.size
    go_wp2_with fail
    go_ret2
    exact ⟨by rw [HR.out]; rfl, B3⟩

end Go.Proofs.Ytlhkfpenfbakkaa
