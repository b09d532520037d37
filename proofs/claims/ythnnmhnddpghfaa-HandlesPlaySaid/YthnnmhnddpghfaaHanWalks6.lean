/- Walks: a table of descriptors: the nodes that are open. -/
import Derived.Test.YthnnmhnddpghfaaHanWalks5
import Derived.Test.YthnnmhnddpghfaaShelf
import Derived.Deep.MidRow
import Derived.Sort.OwnSortedInts
import Derived.Lib.RowBridge
set_option linter.unusedVariables false
set_option linter.unusedSimpArgs false
set_option maxRecDepth 100000
namespace Go.Proofs.Ythnnmhnddpghfaa
open Go.RowKit Go.Joins Go.Sort

theorem slot_index (l : List Sl) (hl : l.length = 16) (k : Nat) (s : Sl) (h : l[k]? = some s) : ∀ w, (Instr.index 52 (.agg (l.flatMap scells).toArray) (.int .i64 (k : Int))).run Try.prog w = .ok (.agg #[.bool s.o, .int .i64 s.n, .int .i64 s.a]) w := by
  intro w
  have hk := (List.getElem?_eq_some_iff.1 h).1
  have h1 : (0 : Int) ≤ (k : Int) ∧ (k : Int) < 16 := by omega
  have e1 : ((k : Int)).toNat = k := by omega
  have hz := scells_len l
  have hk16 : k < 16 := by omega
  have hx : List.take 3 (List.drop (k * 3) (l.flatMap scells)) = [.bool s.o, .int .i64 s.n, .int .i64 s.a] := by
    obtain ⟨a, b, c⟩ := flat_get l k s h
    apply List.ext_getElem?
    intro j
    match j with
    | 0 => rw [List.getElem?_take_of_lt (by omega), List.getElem?_drop]; exact a
    | 1 => rw [List.getElem?_take_of_lt (by omega), List.getElem?_drop]; exact b
    | 2 => rw [List.getElem?_take_of_lt (by omega), List.getElem?_drop]; exact c
    | j + 3 => rw [List.getElem?_take_eq_none (by omega)]; rfl
  simp [Instr.index, go_sem, Try.underlying52, e1, h1, hk16, part, Try.isAgg51, Try.sizeOf51, hx, asIntOf]

/-- the nodes of the first k slots that are open -/
def openN (l : List Sl) (k : Nat) : List Int := ((l.take k).filter (·.o)).map (·.n)
theorem openN_yes {l : List Sl} {k : Nat} {s : Sl} (h : l[k]? = some s) (ho : s.o = true) : openN l (k + 1) = openN l k ++ [s.n] := by
  obtain ⟨hk, e⟩ := List.getElem?_eq_some_iff.1 h
  rw [openN, openN, List.take_succ_eq_append_getElem hk, List.filter_append, List.map_append, e]
  simp [ho]
theorem openN_no {l : List Sl} {k : Nat} {s : Sl} (h : l[k]? = some s) (ho : s.o = false) : openN l (k + 1) = openN l k := by
  obtain ⟨hk, e⟩ := List.getElem?_eq_some_iff.1 h
  rw [openN, openN, List.take_succ_eq_append_getElem hk, List.filter_append, List.map_append, e]
  simp [ho]
theorem openN_len (l : List Sl) (k : Nat) : (openN l k).length ≤ k := by
  rw [openN, List.length_map]
  exact Nat.le_trans (List.length_filter_le _ _) (by simp; omega)
/-- the nodes that are open, rising, each once -/
def nodesOf (l : List Sl) : List Int := Lib.compact ((openN l 16).mergeSort fun x y => decide (x ≤ y))

def NodesP (l : List Sl) (w : World) (e : Ending) (w' : World) : Prop := ∃ a cap, e = .returned (.slice a (nodesOf l).length cap) ∧ NewS w' w.heap.size a ((nodesOf l).map (Value.int .i64)) ∧ Below w.heap.size w w'

theorem info_int6 : (Try.prog.info? 3).map (fun i => (i.zero, i.size, i.bytes)) = some (some (.int .i64 0), 1, 8) := by kernel_rfl
theorem info_arr6 : (Try.prog.info? 52).map (·.size) = some 48 := by kernel_rfl

set_option maxHeartbeats 4000000 in
theorem hnodes (K : Nat) (l : List Sl) (w : World) (h : TabAt w K true l) : Calls Try.prog 23 #[.pointer (some ⟨K, 0, none⟩)] w (NodesP l w) := by
  have HN := Lib.hid (hnone_row K true w h.head)
  have HL := Lib.hid h.1
  have HX := Lib.hid (fun k s => slot_index l h.1 k s)
  have HR : Hid (w.rangeAt K 1 (l.flatMap scells)) := by
    intro j v hv
    have := h.2.cell (1 + j) (by rw [tcells, List.length_cons]; have := (List.getElem?_eq_some_iff.1 hv).1; omega)
    rw [this, Nat.add_comm 1 j, tcells, List.getElem?_cons_succ]
    exact hv
  have hsz : Hid ((Try.prog.info? 52).map (·.size) = some (l.flatMap scells).length) := by
    show _ = _
    rw [info_arr6, scells_len, h.1]
  obtain ⟨i0, hi, hz0, hz1, hz2⟩ := info_parts info_int6
  have HI := Lib.hid (And.intro hi (And.intro hz0 (And.intro hz1 hz2)))
  have hlt := h.lt
  clear hi hz0 hz1 hz2 h
  go_enter Try.func23, Try.ntmps23
  go_wp2_with fail
  refine HN.out.mono ?_
  rintro e w1 ⟨rfl, rfl⟩
  go_wp2_with (refine wpList_load_mid rfl _ _ rfl K 1 (by rfl) (l.flatMap scells) _ HR.out Try.underlying52 rfl hsz.out ?_)
  generalize hcs : (l.flatMap scells).toArray = cs at HX ⊢
  clear hcs HR
  go_wp2_with fail
  go_loopw [3, 5, 12] (fun oo _ jj wr => ∃ (k : Nat) (a : Option Addr) (cap : Nat), k ≤ 16 ∧ jj = .int .i64 k ∧ oo = .slice a (openN l k).length cap ∧ wr.ownsRow w.heap.size 3 1 (.slice a (openN l k).length cap) (openN l k).length ((openN l k).map (Value.int .i64)) ∧ Below w.heap.size w wr) (fun _ _ jj _ => 16 - (intOf jj).toNat)
  case atStart => exact ⟨0, none, 0, by omega, rfl, rfl, World.ownsRow_nil _ _ _ _, Below.refl _ _⟩
  case round =>
    obtain ⟨k, a, cap, hk, rfl, rfl, hown, B⟩ := hrel
    have HK := Lib.hid hown
    have HB := Lib.hid (fun j hj => World.ownsRow.lt HK.out j hj)
    have hle := openN_len l k
    clear hown
    by_cases hlt2 : k < 16
    · obtain ⟨s, hs⟩ : ∃ s, l[k]? = some s := ⟨_, List.getElem?_eq_getElem (by rw [HL.out]; exact hlt2)⟩
      have hx := HX.out k s hs
      have h1 : (k : Int) < 16 := by omega
      have B1 := B.alloc B.size (.cells #[.bool s.o, .int .i64 s.n, .int .i64 s.a] 51)
      cases ho : s.o with
      | true =>
        have HS := Lib.hid (openN_yes hs ho)
        rw [ho] at hx B1
        clear hs
        have hlen : (openN l k).length + 1 = (openN l (k + 1)).length := by rw [HS.out]; simp
        have HR := Lib.hid (row_news4 (show RowAt ((wr.alloc (.cells #[.bool true, .int .i64 s.n, .int .i64 s.a] 51)).alloc (.cells #[.int .i64 s.n] 3)) (wr.heap.size + 1) [.int .i64 s.n] from by have := rowAt_alloc (wr.alloc (.cells #[.bool true, .int .i64 s.n, .int .i64 s.a] 51)) #[.int .i64 s.n] 3; rw [World.size_alloc] at this; exact this))
        go_wp2_with (at_builtin; refine wpList_append_own _ rfl _ _ 44 rfl w.heap.size 3 i0 (.int .i64 0) 1 8 Try.underlying44 HI.out.1 HI.out.2.1 HI.out.2.2.1 HI.out.2.2.2 rfl (by decide) _ (openN l k).length _ rfl ((HK.out.alloc _).alloc _) ⟨wr.heap.size + 1, 0, none⟩ 1 1 [.int .i64 s.n] rfl rfl HR.out ?c2 ?c3 ?c4 ?c5 ?_)
        case c2 => intro u hu; simp at hu; subst hu; rfl
        case c3 => unfold maxLen; omega
        case c4 => omega
        case c5 => have := B.size; simp; omega
        intro v' w9 hown9 hg9 _
        obtain ⟨a9, cap9, rfl⟩ := own_form hown9
        have B9 := grown_below4 (B1.alloc B1.size (.cells #[.int .i64 s.n] 3)) hg9 (fun j hj => (HB.out j hj).1) (by have := B.size; simp; omega)
        have HO9 : Hid (w9.ownsRow w.heap.size 3 1 (.slice a9 (openN l (k + 1)).length cap9) (openN l (k + 1)).length ((openN l (k + 1)).map (Value.int .i64))) := by
          show World.ownsRow _ _ _ _ _ _ _
          rw [show (openN l (k + 1)).map (Value.int .i64) = (openN l k).map (Value.int .i64) ++ [.int .i64 s.n] from by rw [HS.out, List.map_append]; rfl]
          exact hown9
        clear hown9 hg9 HR hx
        go_wp2_with fail
        go_roundw
        case rel => exact ⟨k + 1, a9, cap9, by omega, by go_num, rfl, HO9.out, B9⟩
        case measure => simp [intOf]; omega
      | false =>
        have HS := Lib.hid (openN_no hs ho)
        rw [ho] at hx B1
        clear hs
        go_wp2_with fail
        go_roundw
        case rel => exact ⟨k + 1, a, cap, by omega, by go_num, by rw [HS.out], by rw [HS.out]; exact HK.out.alloc _, B1⟩
        case measure => simp [intOf]; omega
    · obtain rfl : k = 16 := by omega
      have hown := HK.out
      have HND := Lib.hid (show nodesOf l = Lib.compact ((openN l 16).mergeSort fun x y => decide (x ≤ y)) from rfl)
      have hlw := B.size
      clear HK HB HX hsz HL
      generalize openN l 16 = xs at *
      by_cases hm : xs = []
      · subst hm
        have HS := Lib.hid (Try.slices_Sort_int_none a cap wr)
        have HC := Lib.hid (Try.slices_Compact_int_empty a cap wr)
        have HZ : Hid (nodesOf l = []) := by
          show _ = _
          rw [HND.out]; decide +kernel
        clear hown
        go_wp2_with fail
        refine HS.out.mono ?_
        rintro e w1 ⟨rfl, hw⟩
        subst hw
        go_wp2_with fail
        refine HC.out.mono ?_
        rintro e w1 ⟨rfl, hw⟩
        subst hw
        go_wp2_with fail
        go_ret
        exact ⟨a, cap, by rw [HZ.out]; rfl, by rw [HZ.out]; exact .inl rfl, B⟩
      · have hpos : 0 < xs.length := List.length_pos_iff.2 hm
        rcases hown.2 with ⟨_, h0⟩ | ⟨g, cap', cur, hv, hg, hb, h1, h2, h3, h4⟩
        · omega
        injection hv with hv1 _ hv3
        subst hv1 hv3
        obtain ⟨ys, hys⟩ : ∃ ys, ys = xs.mergeSort (fun x y => decide (x ≤ y)) := ⟨_, rfl⟩
        have hyl : ys.length = xs.length := by rw [hys, List.length_mergeSort]
        have HS := Lib.hid (Try.slices_Sort_int g 0 cap xs wr (holds_of_blockI hb (by rw [Nat.mul_one] at h4; exact h4)) (Array.getElem?_eq_some_iff.1 hb).1 (by omega))
        rw [← hys] at HS HND
        have HO : Hid (∀ n os, (grow (putRow (Value.int .i64) (Sort.ahead wr n) g 0 ys.toArray) os).ownsRow w.heap.size 3 1 (.slice (some ⟨g, 0, none⟩) xs.length cap) xs.length (ys.map (Value.int .i64))) := fun n os => ownsRow_sortedI hyl hg hb h1 h2 h3
        have HG : Hid (∀ n os, wr.grownBy (grow (putRow (Value.int .i64) (Sort.ahead wr n) g 0 ys.toArray) os) (some g)) := fun n os => grownBy_sortedI _
        clear hown h4 hb hys h3 hm
        go_wp2_with fail
        refine HS.out.mono ?_
        rintro e w1 ⟨rfl, n, os, hw⟩
        have hO := HO.out n os
        have hG := HG.out n os
        rw [← hw] at hO hG
        clear hw HS HO HG
        have B1 := grown_below4 B hG (fun j hj => by injection hj with hj; omega) B.size
        rcases hO.2 with ⟨h0, _⟩ | ⟨g', cap', cur1, hv, _, hb1, _, _, h3, h4⟩
        · cases h0
        injection hv with hv1 _ hv3
        injection hv1 with hv1
        injection hv1 with hv1
        subst hv1 hv3
        have hCc := Try.slices_Compact_int g 0 cap ys w1 (holds_of_blockI hb1 (by rw [Nat.mul_one, ← hyl] at h4; exact h4)) (by omega) (by omega)
        rw [hyl] at hCc
        have HC := Lib.hid hCc
        have hcl := Lib.compact_length_le ys
        obtain ⟨zs, hzs⟩ : ∃ zs, zs = Lib.compact ys := ⟨_, rfl⟩
        rw [← hzs] at HC HND hcl
        have HF : Hid (∀ q, RowAt (putRow (Value.int .i64) (Sort.ahead w1 q) g 0 (zs ++ List.replicate (xs.length - zs.length) 0).toArray) g (zs.map (Value.int .i64)) ∧ w1.grownBy (putRow (Value.int .i64) (Sort.ahead w1 q) g 0 (zs ++ List.replicate (xs.length - zs.length) 0).toArray) (some g)) := by
          intro q
          have e1 := heap_sortedI (n := q) (os := #[]) (zs ++ List.replicate (xs.length - zs.length) 0).toArray hb1
          have e2 := grownBy_sortedI (w := w1) (g := g) (n := q) (os := #[]) (zs ++ List.replicate (xs.length - zs.length) 0).toArray
          rw [grow_empty] at e1 e2
          refine ⟨?_, e2⟩
          have e3 := take_putCellsI cur1 (zs ++ List.replicate (xs.length - zs.length) 0) (by simp; omega)
          refine ⟨_, _, 0, 0, e1, fun i hi => ?_, fun i hi => by omega⟩
          rw [← Array.getElem?_toList]
          have hi' : i < zs.length := by simpa using hi
          have e4 : ((putCells (Value.int .i64) 0 (zs ++ List.replicate (xs.length - zs.length) 0).toArray cur1).toList.take (zs ++ List.replicate (xs.length - zs.length) 0).length)[i]? = ((zs ++ List.replicate (xs.length - zs.length) 0).map (Value.int .i64))[i]? := by rw [e3]
          rw [List.getElem?_take_of_lt (by simp; omega), List.map_append, List.getElem?_append_left (by simpa using hi')] at e4
          exact e4
        clear hO hb1 h4 hCc hzs
        go_wp2_with fail
        refine HC.out.mono ?_
        rintro e w2 ⟨rfl, q, hw⟩
        obtain ⟨f1, f2⟩ := HF.out q
        rw [← hw] at f1 f2
        have B2 := grown_below4 B1 f2 (fun j hj => by injection hj with hj; omega) B1.size
        clear hw HF HC
        go_wp2_with fail
        go_ret
        exact ⟨_, cap, by rw [HND.out]; rfl, by rw [HND.out]; exact .inr ⟨g, rfl, hg, f1⟩, B2⟩

end Go.Proofs.Ythnnmhnddpghfaa
