/- Walks: the document's table of descriptors: Nodes. -/
import Derived.Test.YthnnmhnddpghfaaHanRef6
import Derived.Test.YthnnmhnddpghfaaPlainHan4r
import Derived.Laws.AppendOwnNone
set_option linter.unusedVariables false
set_option linter.unusedSimpArgs false
set_option maxRecDepth 100000
namespace Go.Proofs.Ythnnmhnddpghfaa
open Go.RowKit Go.Joins

theorem RT.below {w w' : World} {R : Nat} {l : List Rf} (h : RT w R l) (hb : Below w.heap.size w w') : RT w' R l := by
  obtain ⟨a, cap, hc, hV⟩ := h
  have hR : R < w.heap.size := by
    rcases Nat.lt_or_ge R w.heap.size with h' | h'
    · exact h'
    · simp [World.cell?, Array.getElem?_eq_none h'] at hc
  exact ⟨a, cap, by rw [hb.cell (p := ⟨R, 0, none⟩) hR]; exact hc, hV.below hb (Nat.le_refl _)⟩

theorem own_less {w : World} {base base' : Nat} {e : TypeId} {size : Nat} {v : Value} {n : Nat} {xs : List Value} (h : w.ownsRow base' e size v n xs) (hb : base ≤ base') : w.ownsRow base e size v n xs := by
  refine ⟨h.1, ?_⟩
  rcases h.2 with h0 | ⟨g, cap, cur, hv, hg, r⟩
  · exact .inl h0
  · exact .inr ⟨g, cap, cur, hv, by omega, r⟩

/-- the nodes of the first k elements, rising, each once -/
def NodesR (l : List Rf) (k : Nat) (out : List Int) : Prop := out.Pairwise (· < ·) ∧ (∀ y, y ∈ out ↔ y ∈ (l.take k).map (·.n)) ∧ out.length ≤ k

theorem nodesr_start (l : List Rf) : NodesR l 0 [] := ⟨List.Pairwise.nil, fun y => by simp, Nat.le_refl _⟩
theorem nodesr_succ {l : List Rf} {k : Nat} {x : Rf} (hx : l[k]? = some x) (y : Int) : y ∈ (l.take (k + 1)).map (·.n) ↔ y ∈ (l.take k).map (·.n) ∨ y = x.n := by
  obtain ⟨hk, e⟩ := List.getElem?_eq_some_iff.1 hx
  rw [List.take_succ_eq_append_getElem hk, List.map_append, List.mem_append, e]
  simp
theorem NodesR.same {l : List Rf} {k : Nat} {out : List Int} {x : Rf} {m : Nat} (h : NodesR l k out) (hx : l[k]? = some x) (hm : out[m]? = some x.n) : NodesR l (k + 1) out := by
  refine ⟨h.1, fun y => ?_, by have := h.2.2; omega⟩
  rw [nodesr_succ hx, ← h.2.1]
  constructor
  · exact .inl
  · rintro (h' | rfl)
    · exact h'
    · exact List.mem_of_getElem? hm
theorem NodesR.more {l : List Rf} {k : Nat} {out : List Int} {x : Rf} {m : Nat} (h : NodesR l k out) (hx : l[k]? = some x) (hm : m ≤ out.length) (h1 : ∀ j < m, ∃ y, out[j]? = some y ∧ y < x.n) (h2 : ∀ y, out[m]? = some y → x.n < y) : NodesR l (k + 1) (out.take m ++ (x.n :: out.drop m)) := by
  refine ⟨insert_strict h.1 hm h1 h2, fun y => ?_, ?_⟩
  · rw [insert_mem, nodesr_succ hx, h.2.1]
  · have := h.2.2
    simp; omega

theorem info_int8r : (Try.prog.info? 3).map (fun i => (i.zero, i.size, i.bytes)) = some (some (.int .i64 0), 1, 8) := by kernel_rfl

theorem row_slice {w : World} {g : Nat} {xs : List Int} (h : RowAt w g (xs.map (Value.int .i64))) (o m : Nat) (hm : o + m ≤ xs.length) : ∀ j u, (((xs.drop o).take m).map (Value.int .i64))[j]? = some u → w.cell? ⟨g, o + j, none⟩ = some u := by
  intro j u hu
  have hj := (List.getElem?_eq_some_iff.1 hu).1
  simp at hj
  rw [h.cell _ (by simp; omega)]
  rw [List.getElem?_map] at hu ⊢
  rw [List.getElem?_take_of_lt (by omega), List.getElem?_drop] at hu
  exact hu

def NodesRP (l : List Rf) (w : World) (e : Ending) (w' : World) : Prop := ∃ a cap out, e = .returned (.slice a (List.length out) cap) ∧ NewS w' w.heap.size a (out.map (Value.int .i64)) ∧ Below w.heap.size w w' ∧ NodesR l l.length out

theorem one_ints {xs : List Int} : ∀ u ∈ xs.map (Value.int .i64), u.oneCell' = true := by
  intro u hu
  rw [List.mem_map] at hu
  obtain ⟨z, _, rfl⟩ := hu
  rfl

set_option maxHeartbeats 8000000 in
theorem rnodes (R : Nat) (l : List Rf) (w : World) (h : RT w R l) (hl : l.length ≤ 1000) : Calls Try.prog 24 #[.pointer (some ⟨R, 0, none⟩)] w (NodesRP l w) := by
  have HT := Lib.hid h
  obtain ⟨i0, hi, hz0, hz1, hz2⟩ := info_parts info_int8r
  have HI := Lib.hid (And.intro hi (And.intro hz0 (And.intro hz1 hz2)))
  clear h hi hz0 hz1 hz2
  go_enter Try.func24, Try.ntmps24
  go_wp2_with fail
  go_loopw [3, 4, 5, 6, 7] (fun oo jj _ _ _ wr => ∃ (k : Nat) (a : Option Addr) (cap : Nat) (out : List Int), k ≤ l.length ∧ jj = .int .i64 k ∧ oo = .slice a out.length cap ∧ Hid (wr.ownsRow w.heap.size 3 1 (.slice a out.length cap) out.length (out.map (Value.int .i64))) ∧ Below w.heap.size w wr ∧ Hid (NodesR l k out)) (fun _ jj _ _ _ _ => l.length - (intOf jj).toNat)
  case atStart => exact ⟨0, none, 0, [], by omega, rfl, rfl, World.ownsRow_nil _ _ _ _, Below.refl _ _, nodesr_start l⟩
  case round =>
    obtain ⟨k, a, cap, out, hk, rfl, rfl, HK, B, HN⟩ := hrel
    have hT := HT.out.below B
    obtain ⟨aR, capR, hcR, hVR⟩ := hT
    by_cases hlt : k < l.length
    · obtain ⟨x, hx⟩ : ∃ x, l[k]? = some x := ⟨_, List.getElem?_eq_getElem hlt⟩
      obtain ⟨P, o, rfl, hP, c0, c1, c2⟩ := rf_cells hVR hx
      have h1 : (k : Int) < (l.length : Int) := by omega
      have h0 : (0 : Int) ≤ (k : Int) := by omega
      have HX := Lib.hid hx
      have hon := HN.out.2.2
      clear hx hVR c0 c2
      go_wp2_with fail
      go_loopw [6] (fun jj wi => ∃ m : Nat, m ≤ out.length ∧ jj = .int .i64 m ∧ wi = wr ∧ Hid (∀ j < m, ∃ y, out[j]? = some y ∧ y < x.n)) (fun jj _ => out.length - (intOf jj).toNat)
      case atStart => exact ⟨0, by omega, rfl, rfl, fun j hj => by omega⟩
      case round =>
        obtain ⟨m, hm, rfl, rfl, HM⟩ := hrel
        clear hcR c1
        by_cases hmt : m < out.length
        · obtain ⟨y, hy⟩ : ∃ y, out[m]? = some y := ⟨_, List.getElem?_eq_getElem hmt⟩
          rcases HK.out.2 with ⟨_, h00⟩ | ⟨g, cap', cur, hv, hg, hbk, hcap, hcm, hcs, htk⟩
          · omega
          injection hv with hv1 _ hv3
          subst hv1 hv3
          have hglt : g < wr.heap.size := (Array.getElem?_eq_some_iff.1 hbk).1
          have hrow := rowAt_own HK.out HK.out.1 hglt
          have cy : wr.cell? ⟨g, m, none⟩ = some (.int .i64 y) := by rw [hrow.cell m (by simpa using hmt), List.getElem?_map, hy]; rfl
          have m1 : (m : Int) < (out.length : Int) := by omega
          have m0 : (0 : Int) ≤ (m : Int) := by omega
          have HRow := Lib.hid hrow
          have HY := Lib.hid hy
          clear hbk htk hrow hy hcs
          by_cases hyn : y < x.n
          · go_wp2_with fail
            go_roundw
            case rel => exact ⟨m + 1, by omega, by go_num, trivial, fun j hj => by
              by_cases e : j = m
              · subst e; exact ⟨y, HY.out, hyn⟩
              · exact HM.out j (by omega)⟩
            case measure => simp [intOf]; omega
          · by_cases hye : y = x.n
            · have hq : (y == x.n) = true := by simpa using hye
              have HE := Lib.hid hye
              clear hye
              go_wp2_with fail
              go_roundw
              case rel => exact ⟨k + 1, some ⟨g, 0, none⟩, cap, out, by omega, by go_num, rfl, HK, B, HN.out.same HX.out (by rw [← HE.out]; exact HY.out)⟩
              case measure => simp [intOf]; omega
            · have hq : (y == x.n) = false := by simpa using hye
              have hN : NodesR l (k + 1) (out.take m ++ (x.n :: out.drop m)) := HN.out.more HX.out hm HM.out (fun z hz => by have := HY.out; rw [this] at hz; injection hz with hz; omega)
              have HN2 := Lib.hid hN
              clear hye hN
              have m2 : (m : Int) ≤ (cap : Int) := by omega
              have m3 : (m : Int) ≤ (out.length : Int) := by omega
              have m4 : (out.length : Int) ≤ (cap : Int) := by omega
              obtain ⟨T1, hT1⟩ : ∃ T1, T1 = (out.take m).map (Value.int .i64) := ⟨_, rfl⟩
              obtain ⟨T3, hT3⟩ : ∃ T3, T3 = (out.drop m).map (Value.int .i64) := ⟨_, rfl⟩
              have HT1 : Hid (T1.length = m * 1 ∧ (∀ j u, T1[j]? = some u → wr.cell? ((⟨g, 0, none⟩ : Addr).add j) = some u) ∧ ∀ u ∈ T1, u.oneCell' = true) := by
                refine ⟨by rw [hT1]; simp; omega, fun j u hu => ?_, by rw [hT1]; exact one_ints⟩
                rw [addr_add]
                exact row_slice HRow.out 0 m (by omega) j u (by rw [List.drop_zero, ← hT1]; exact hu)
              have HT3 : Hid (T3.length = (out.length - m) * 1 ∧ (∀ W, RowAt W g (out.map (Value.int .i64)) → ∀ j u, T3[j]? = some u → W.cell? ((⟨g, m, none⟩ : Addr).add j) = some u) ∧ ∀ u ∈ T3, u.oneCell' = true) := by
                refine ⟨by rw [hT3]; simp, fun W hW j u hu => ?_, by rw [hT3]; exact one_ints⟩
                rw [addr_add]
                exact row_slice hW m (out.length - m) (by omega) j u (by rw [List.take_of_length_le (by simp), ← hT3]; exact hu)
              have HE : Hid (T1 ++ (.int .i64 x.n :: T3) = (out.take m ++ (x.n :: out.drop m)).map (Value.int .i64) ∧ (out.take m ++ (x.n :: out.drop m)).length = m + 1 + (out.length - m)) := by
                refine ⟨by rw [hT1, hT3]; simp, by simp; omega⟩
              clear hT1 hT3
              generalize out.take m ++ (x.n :: out.drop m) = out2 at *
              have hdm : m + 1 + (out.length - m) = out.length + 1 := by omega
              have HB := Lib.hid B
              have Hm := Lib.hid (And.intro hdm (And.intro hk hl))
              clear hdm
              go_wp2_with (at_builtin; refine wpList_append_own _ rfl _ _ 44 rfl wr.heap.size 3 i0 (.int .i64 0) 1 8 Try.underlying44 HI.out.1 HI.out.2.1 HI.out.2.2.1 HI.out.2.2.2 rfl (by decide) (.slice none 0 0) 0 [] rfl (World.ownsRow_nil _ _ _ _) ⟨g, 0, none⟩ m cap T1 rfl HT1.out.1 HT1.out.2.1 HT1.out.2.2 (by unfold maxLen; omega) (by omega) (Nat.le_refl _) ?_)
              intro v1 w1 hown1 hg1 _
              obtain ⟨a1, cap1, rfl⟩ := own_form hown1
              have HO1 := Lib.hid hown1
              have HR1 := Lib.hid (HRow.out.grown hg1 (by simp [Value.ownBlock]))
              have hw1 := hg1.size
              have HR1n := Lib.hid (row_news4 (rowAt_alloc w1 #[.int .i64 x.n] 3))
              have HB1 := Lib.hid (Below.grown HB.out hg1 HB.out.size (fun j hj => by simp [Value.ownBlock] at hj))
              clear hown1 hg1
              go_wp2_with (at_builtin; refine wpList_append_own _ rfl _ _ 44 rfl wr.heap.size 3 i0 (.int .i64 0) 1 8 Try.underlying44 HI.out.1 HI.out.2.1 HI.out.2.2.1 HI.out.2.2.2 rfl (by decide) _ m T1 (by first | rfl | simp) (HO1.out.alloc _) ⟨w1.heap.size, 0, none⟩ 1 1 [.int .i64 x.n] rfl rfl HR1n.out (by intro u hu; simp at hu; subst hu; rfl) (by unfold maxLen; omega) (by omega) (by simp; omega) ?_)
              intro v2 w2 hown2 hg2 _
              obtain ⟨a2, cap2, rfl⟩ := own_form hown2
              have HO2 := Lib.hid hown2
              have hg1b : ∀ j, (Value.slice a1 m cap1).ownBlock = some j → wr.heap.size ≤ j := fun j hj => (HO1.out.lt j hj).1
              have HR2 := Lib.hid ((HR1.out.alloc (.cells #[.int .i64 x.n] 3)).grown hg2 (fun e => by have := hg1b g e; omega))
              have hw2 := hg2.size
              rw [World.size_alloc] at hw2
              have HB2 := Lib.hid (Below.grown (HB1.out.alloc HB1.out.size (.cells #[.int .i64 x.n] 3)) hg2 (by have := HB.out.size; simp; omega) (fun j hj => by have := hg1b j hj; have := HB.out.size; omega))
              clear hown2 hg2 hg1b HR1n HR1
              go_wp2_with (at_builtin; refine wpList_append_own _ rfl _ _ 44 rfl wr.heap.size 3 i0 (.int .i64 0) 1 8 Try.underlying44 HI.out.1 HI.out.2.1 HI.out.2.2.1 HI.out.2.2.2 rfl (by decide) _ (m + 1) (T1 ++ [.int .i64 x.n]) (by first | rfl | simp) HO2.out ⟨g, m, none⟩ (out.length - m) (cap - m) T3 (by first | rfl | (simp [Act.eval, Act.put]; done)) HT3.out.1 (HT3.out.2.1 _ HR2.out) HT3.out.2.2 (by unfold maxLen; omega) (by omega) (by omega) ?_)
              intro v3 w3 hown3 hg3 _
              obtain ⟨a3, cap3, rfl⟩ := own_form hown3
              have HB3 := Lib.hid (Below.grown HB2.out hg3 (by have := HB.out.size; omega) (fun j hj => by have := (HO2.out.lt j hj).1; have := HB.out.size; omega))
              have HO3 : Hid (w3.ownsRow w.heap.size 3 1 (.slice a3 out2.length cap3) out2.length (out2.map (Value.int .i64))) := by
                have := own_less hown3 (HB.out.size)
                rw [HE.out.1, ← HE.out.2] at this
                exact this
              clear hown3 hg3 HR2 HO2 HO1 HB1 HB2 hw1 hw2
              go_wp2_with fail
              go_roundw
              case rel => exact ⟨k + 1, a3, cap3, out2, by have := Hm.out.2.1; omega, by go_num, by rw [HE.out.2], HO3.out, HB3.out, HN2.out⟩
              case measure => simp [intOf]; omega
        · have hnm : ¬ ((m : Int) < (out.length : Int)) := by omega
          have m0 : (0 : Int) ≤ (m : Int) := by omega
          have hN : NodesR l (k + 1) (out.take m ++ (x.n :: out.drop m)) := HN.out.more HX.out hm HM.out (fun z hz => by have := (List.getElem?_eq_some_iff.1 hz).1; omega)
          have HN2 := Lib.hid hN
          clear hN
          rcases HK.out.2 with ⟨hv, h00⟩ | ⟨g, cap', cur, hv, hg, hbk, hcap, hcm, hcs, htk⟩
          · injection hv with hv1 _ hv3
            subst hv1 hv3
            obtain rfl : out = [] := List.length_eq_zero_iff.1 h00
            obtain rfl : m = 0 := by simp at hm; exact hm
            simp only [List.take_nil, List.drop_nil, List.nil_append] at HN2
            have HB := Lib.hid B
            have HR1n := Lib.hid (row_news4 (rowAt_alloc wr #[.int .i64 x.n] 3))
            go_wp2_with (at_builtin; refine wpList_append_own _ rfl _ _ 44 rfl wr.heap.size 3 i0 (.int .i64 0) 1 8 Try.underlying44 HI.out.1 HI.out.2.1 HI.out.2.2.1 HI.out.2.2.2 rfl (by decide) (.slice none 0 0) 0 [] (by first | rfl | simp) (World.ownsRow_nil _ _ _ _) ⟨wr.heap.size, 0, none⟩ 1 1 [.int .i64 x.n] rfl rfl HR1n.out (by intro u hu; simp at hu; subst hu; rfl) (by unfold maxLen; omega) (by omega) (by simp) ?_)
            intro v2 w2 hown2 hg2 _
            obtain ⟨a2, cap2, rfl⟩ := own_form hown2
            have HO2 := Lib.hid hown2
            have HB2 := Lib.hid (Below.grown (HB.out.alloc HB.out.size (.cells #[.int .i64 x.n] 3)) hg2 (by have := HB.out.size; simp; omega) (fun j hj => by simp [Value.ownBlock] at hj))
            clear hown2 hg2 HR1n
            go_wp2_with (at_builtin; refine wpList_append_own_none rfl _ _ 44 rfl wr.heap.size 3 i0 1 Try.underlying44 HI.out.1 (.slice a2 1 cap2) 1 [.int .i64 x.n] (by first | rfl | (simp [Act.eval, Act.put]; done)) HO2.out (by first | rfl | (simp [Act.eval, Act.put]; done)) ?_)
            have HO3 : Hid (w2.ownsRow w.heap.size 3 1 (.slice a2 [x.n].length cap2) [x.n].length ([x.n].map (Value.int .i64))) := own_less HO2.out HB.out.size
            clear HO2
            go_wp2_with fail
            go_roundw
            case rel => exact ⟨k + 1, a2, cap2, [x.n], by omega, by go_num, rfl, HO3.out, HB2.out, HN2.out⟩
            case measure => simp [intOf]; omega
          · injection hv with hv1 _ hv3
            subst hv1 hv3
            have hglt : g < wr.heap.size := (Array.getElem?_eq_some_iff.1 hbk).1
            have hrow := rowAt_own HK.out HK.out.1 hglt
            have HRow := Lib.hid hrow
            clear hbk htk hrow hcs
            by_cases hcz : cap = m
            · skip
              have m2 : (m : Int) ≤ (cap : Int) := by omega
              have m3 : (m : Int) ≤ (out.length : Int) := by omega
              have m4 : (out.length : Int) ≤ (cap : Int) := by omega
              obtain ⟨T1, hT1⟩ : ∃ T1, T1 = (out.take m).map (Value.int .i64) := ⟨_, rfl⟩
              obtain ⟨T3, hT3⟩ : ∃ T3, T3 = (out.drop m).map (Value.int .i64) := ⟨_, rfl⟩
              have HT1 : Hid (T1.length = m * 1 ∧ (∀ j u, T1[j]? = some u → wr.cell? ((⟨g, 0, none⟩ : Addr).add j) = some u) ∧ ∀ u ∈ T1, u.oneCell' = true) := by
                refine ⟨by rw [hT1]; simp; omega, fun j u hu => ?_, by rw [hT1]; exact one_ints⟩
                rw [addr_add]
                exact row_slice HRow.out 0 m (by omega) j u (by rw [List.drop_zero, ← hT1]; exact hu)
              have HT3 : Hid (T3.length = (out.length - m) * 1 ∧ (∀ W, RowAt W g (out.map (Value.int .i64)) → ∀ j u, T3[j]? = some u → W.cell? ((⟨g, 0, none⟩ : Addr).add j) = some u) ∧ ∀ u ∈ T3, u.oneCell' = true) := by
                refine ⟨by rw [hT3]; simp, fun W hW j u hu => ?_, by rw [hT3]; exact one_ints⟩
                rw [hT3, List.drop_of_length_le (by omega)] at hu
                simp at hu
              have HE : Hid (T1 ++ (.int .i64 x.n :: T3) = (out.take m ++ (x.n :: out.drop m)).map (Value.int .i64) ∧ (out.take m ++ (x.n :: out.drop m)).length = m + 1 + (out.length - m)) := by
                refine ⟨by rw [hT1, hT3]; simp, by simp; omega⟩
              clear hT1 hT3
              generalize out.take m ++ (x.n :: out.drop m) = out2 at *
              have hdm : m + 1 + (out.length - m) = out.length + 1 := by omega
              have HB := Lib.hid B
              have Hm := Lib.hid (And.intro hdm (And.intro hk hl))
              clear hdm
              go_wp2_with (at_builtin; refine wpList_append_own _ rfl _ _ 44 rfl wr.heap.size 3 i0 (.int .i64 0) 1 8 Try.underlying44 HI.out.1 HI.out.2.1 HI.out.2.2.1 HI.out.2.2.2 rfl (by decide) (.slice none 0 0) 0 [] rfl (World.ownsRow_nil _ _ _ _) ⟨g, 0, none⟩ m _ T1 rfl HT1.out.1 HT1.out.2.1 HT1.out.2.2 (by unfold maxLen; omega) (by omega) (Nat.le_refl _) ?_)
              intro v1 w1 hown1 hg1 _
              obtain ⟨a1, cap1, rfl⟩ := own_form hown1
              have HO1 := Lib.hid hown1
              have HR1 := Lib.hid (HRow.out.grown hg1 (by simp [Value.ownBlock]))
              have hw1 := hg1.size
              have HR1n := Lib.hid (row_news4 (rowAt_alloc w1 #[.int .i64 x.n] 3))
              have HB1 := Lib.hid (Below.grown HB.out hg1 HB.out.size (fun j hj => by simp [Value.ownBlock] at hj))
              clear hown1 hg1
              go_wp2_with (at_builtin; refine wpList_append_own _ rfl _ _ 44 rfl wr.heap.size 3 i0 (.int .i64 0) 1 8 Try.underlying44 HI.out.1 HI.out.2.1 HI.out.2.2.1 HI.out.2.2.2 rfl (by decide) _ m T1 (by first | rfl | simp) (HO1.out.alloc _) ⟨w1.heap.size, 0, none⟩ 1 1 [.int .i64 x.n] rfl rfl HR1n.out (by intro u hu; simp at hu; subst hu; rfl) (by unfold maxLen; omega) (by omega) (by simp; omega) ?_)
              intro v2 w2 hown2 hg2 _
              obtain ⟨a2, cap2, rfl⟩ := own_form hown2
              have HO2 := Lib.hid hown2
              have hg1b : ∀ j, (Value.slice a1 m cap1).ownBlock = some j → wr.heap.size ≤ j := fun j hj => (HO1.out.lt j hj).1
              have HR2 := Lib.hid ((HR1.out.alloc (.cells #[.int .i64 x.n] 3)).grown hg2 (fun e => by have := hg1b g e; omega))
              have hw2 := hg2.size
              rw [World.size_alloc] at hw2
              have HB2 := Lib.hid (Below.grown (HB1.out.alloc HB1.out.size (.cells #[.int .i64 x.n] 3)) hg2 (by have := HB.out.size; simp; omega) (fun j hj => by have := hg1b j hj; have := HB.out.size; omega))
              clear hown2 hg2 hg1b HR1n HR1
              go_wp2_with (at_builtin; refine wpList_append_own _ rfl _ _ 44 rfl wr.heap.size 3 i0 (.int .i64 0) 1 8 Try.underlying44 HI.out.1 HI.out.2.1 HI.out.2.2.1 HI.out.2.2.2 rfl (by decide) _ (m + 1) (T1 ++ [.int .i64 x.n]) (by first | rfl | simp) HO2.out ⟨g, 0, none⟩ (out.length - m) _ T3 (by first | rfl | (simp [Act.eval, Act.put]; done)) HT3.out.1 (HT3.out.2.1 _ HR2.out) HT3.out.2.2 (by unfold maxLen; omega) (by omega) (by omega) ?_)
              intro v3 w3 hown3 hg3 _
              obtain ⟨a3, cap3, rfl⟩ := own_form hown3
              have HB3 := Lib.hid (Below.grown HB2.out hg3 (by have := HB.out.size; omega) (fun j hj => by have := (HO2.out.lt j hj).1; have := HB.out.size; omega))
              have HO3 : Hid (w3.ownsRow w.heap.size 3 1 (.slice a3 out2.length cap3) out2.length (out2.map (Value.int .i64))) := by
                have := own_less hown3 (HB.out.size)
                rw [HE.out.1, ← HE.out.2] at this
                exact this
              clear hown3 hg3 HR2 HO2 HO1 HB1 HB2 hw1 hw2
              go_wp2_with fail
              go_roundw
              case rel => exact ⟨k + 1, a3, cap3, out2, by have := Hm.out.2.1; omega, by go_num, by rw [HE.out.2], HO3.out, HB3.out, HN2.out⟩
              case measure => simp [intOf]; omega
            · skip
              have m2 : (m : Int) ≤ (cap : Int) := by omega
              have m3 : (m : Int) ≤ (out.length : Int) := by omega
              have m4 : (out.length : Int) ≤ (cap : Int) := by omega
              obtain ⟨T1, hT1⟩ : ∃ T1, T1 = (out.take m).map (Value.int .i64) := ⟨_, rfl⟩
              obtain ⟨T3, hT3⟩ : ∃ T3, T3 = (out.drop m).map (Value.int .i64) := ⟨_, rfl⟩
              have HT1 : Hid (T1.length = m * 1 ∧ (∀ j u, T1[j]? = some u → wr.cell? ((⟨g, 0, none⟩ : Addr).add j) = some u) ∧ ∀ u ∈ T1, u.oneCell' = true) := by
                refine ⟨by rw [hT1]; simp; omega, fun j u hu => ?_, by rw [hT1]; exact one_ints⟩
                rw [addr_add]
                exact row_slice HRow.out 0 m (by omega) j u (by rw [List.drop_zero, ← hT1]; exact hu)
              have HT3 : Hid (T3.length = (out.length - m) * 1 ∧ (∀ W, RowAt W g (out.map (Value.int .i64)) → ∀ j u, T3[j]? = some u → W.cell? ((⟨g, m, none⟩ : Addr).add j) = some u) ∧ ∀ u ∈ T3, u.oneCell' = true) := by
                refine ⟨by rw [hT3]; simp, fun W hW j u hu => ?_, by rw [hT3]; exact one_ints⟩
                rw [addr_add]
                exact row_slice hW m (out.length - m) (by omega) j u (by rw [List.take_of_length_le (by simp), ← hT3]; exact hu)
              have HE : Hid (T1 ++ (.int .i64 x.n :: T3) = (out.take m ++ (x.n :: out.drop m)).map (Value.int .i64) ∧ (out.take m ++ (x.n :: out.drop m)).length = m + 1 + (out.length - m)) := by
                refine ⟨by rw [hT1, hT3]; simp, by simp; omega⟩
              clear hT1 hT3
              generalize out.take m ++ (x.n :: out.drop m) = out2 at *
              have hdm : m + 1 + (out.length - m) = out.length + 1 := by omega
              have HB := Lib.hid B
              have Hm := Lib.hid (And.intro hdm (And.intro hk hl))
              clear hdm
              go_wp2_with (at_builtin; refine wpList_append_own _ rfl _ _ 44 rfl wr.heap.size 3 i0 (.int .i64 0) 1 8 Try.underlying44 HI.out.1 HI.out.2.1 HI.out.2.2.1 HI.out.2.2.2 rfl (by decide) (.slice none 0 0) 0 [] rfl (World.ownsRow_nil _ _ _ _) ⟨g, 0, none⟩ m cap T1 rfl HT1.out.1 HT1.out.2.1 HT1.out.2.2 (by unfold maxLen; omega) (by omega) (Nat.le_refl _) ?_)
              intro v1 w1 hown1 hg1 _
              obtain ⟨a1, cap1, rfl⟩ := own_form hown1
              have HO1 := Lib.hid hown1
              have HR1 := Lib.hid (HRow.out.grown hg1 (by simp [Value.ownBlock]))
              have hw1 := hg1.size
              have HR1n := Lib.hid (row_news4 (rowAt_alloc w1 #[.int .i64 x.n] 3))
              have HB1 := Lib.hid (Below.grown HB.out hg1 HB.out.size (fun j hj => by simp [Value.ownBlock] at hj))
              clear hown1 hg1
              go_wp2_with (at_builtin; refine wpList_append_own _ rfl _ _ 44 rfl wr.heap.size 3 i0 (.int .i64 0) 1 8 Try.underlying44 HI.out.1 HI.out.2.1 HI.out.2.2.1 HI.out.2.2.2 rfl (by decide) _ m T1 (by first | rfl | simp) (HO1.out.alloc _) ⟨w1.heap.size, 0, none⟩ 1 1 [.int .i64 x.n] rfl rfl HR1n.out (by intro u hu; simp at hu; subst hu; rfl) (by unfold maxLen; omega) (by omega) (by simp; omega) ?_)
              intro v2 w2 hown2 hg2 _
              obtain ⟨a2, cap2, rfl⟩ := own_form hown2
              have HO2 := Lib.hid hown2
              have hg1b : ∀ j, (Value.slice a1 m cap1).ownBlock = some j → wr.heap.size ≤ j := fun j hj => (HO1.out.lt j hj).1
              have HR2 := Lib.hid ((HR1.out.alloc (.cells #[.int .i64 x.n] 3)).grown hg2 (fun e => by have := hg1b g e; omega))
              have hw2 := hg2.size
              rw [World.size_alloc] at hw2
              have HB2 := Lib.hid (Below.grown (HB1.out.alloc HB1.out.size (.cells #[.int .i64 x.n] 3)) hg2 (by have := HB.out.size; simp; omega) (fun j hj => by have := hg1b j hj; have := HB.out.size; omega))
              clear hown2 hg2 hg1b HR1n HR1
              go_wp2_with (at_builtin; refine wpList_append_own _ rfl _ _ 44 rfl wr.heap.size 3 i0 (.int .i64 0) 1 8 Try.underlying44 HI.out.1 HI.out.2.1 HI.out.2.2.1 HI.out.2.2.2 rfl (by decide) _ (m + 1) (T1 ++ [.int .i64 x.n]) (by first | rfl | simp) HO2.out ⟨g, m, none⟩ (out.length - m) (cap - m) T3 (by first | rfl | (simp [Act.eval, Act.put]; done)) HT3.out.1 (HT3.out.2.1 _ HR2.out) HT3.out.2.2 (by unfold maxLen; omega) (by omega) (by omega) ?_)
              intro v3 w3 hown3 hg3 _
              obtain ⟨a3, cap3, rfl⟩ := own_form hown3
              have HB3 := Lib.hid (Below.grown HB2.out hg3 (by have := HB.out.size; omega) (fun j hj => by have := (HO2.out.lt j hj).1; have := HB.out.size; omega))
              have HO3 : Hid (w3.ownsRow w.heap.size 3 1 (.slice a3 out2.length cap3) out2.length (out2.map (Value.int .i64))) := by
                have := own_less hown3 (HB.out.size)
                rw [HE.out.1, ← HE.out.2] at this
                exact this
              clear hown3 hg3 HR2 HO2 HO1 HB1 HB2 hw1 hw2
              go_wp2_with fail
              go_roundw
              case rel => exact ⟨k + 1, a3, cap3, out2, by have := Hm.out.2.1; omega, by go_num, by rw [HE.out.2], HO3.out, HB3.out, HN2.out⟩
              case measure => simp [intOf]; omega
    · obtain rfl : k = l.length := by omega
      have hnl : ¬ ((l.length : Int) < (l.length : Int)) := by omega
      clear hVR
      go_wp2_with fail
      go_ret
      obtain ⟨a', cap', hv, hn, _⟩ := own_news HK.out
      injection hv with hv1
      exact ⟨a, cap, out, rfl, by rw [hv1]; exact hn, B, HN.out⟩

end Go.Proofs.Ythnnmhnddpghfaa
