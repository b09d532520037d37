/- For every input the law glissadelaw08.RecordsDecode returns true. -/
import Derived.BigQuiet
import Derived.Deep.QuietTactic
import Derived.StillTailTactics
import Derived.Test.YtfgnemddamebaaaRecRefD4
import Derived.Test.YtfgnemddamebaaaRecAlive
import Derived.Test.YtfgnemddamebaaaRecSame
import Derived.Test.YtfgnemddamebaaaFrame
set_option linter.unusedVariables false
set_option linter.unusedSimpArgs false
set_option maxRecDepth 100000
namespace Go.Proofs.Ytfgnemddamebaaa
open Go.RowKit Go.Joins

def HomSt (w : World) (a : Option Addr) (n lo hi : Nat) : Prop := n = 0 ∨ ∃ g zs, a = some ⟨g, 0, none⟩ ∧ lo ≤ g ∧ g < hi ∧ List.length zs = n ∧ RowAt w g (zs.map (Value.int .i64))
def MarkSt (w : World) (a ah : Option Addr) (n m lo hi : Nat) : Prop := m = 0 ∨ ∃ g bs, a = some ⟨g, 0, none⟩ ∧ lo ≤ g ∧ g < hi ∧ List.length bs = m ∧ RowAt w g (bs.map Value.bool) ∧ (n = 0 ∨ ∀ g', ah = some ⟨g', 0, none⟩ → g' ≠ g)
theorem HomSt.below {w w' : World} {a : Option Addr} {n lo hi K : Nat} (h : HomSt w a n lo hi) (hb : Below K w w') (hK : w.heap.size ≤ K) : HomSt w' a n lo hi := by
  rcases h with h | ⟨g, zs, e, h1, h2, h3, h4⟩
  · exact .inl h
  · exact .inr ⟨g, zs, e, h1, h2, h3, h4.below hb (by have := h4.lt; omega)⟩
theorem MarkSt.below {w w' : World} {a ah : Option Addr} {n m lo hi K : Nat} (h : MarkSt w a ah n m lo hi) (hb : Below K w w') (hK : w.heap.size ≤ K) : MarkSt w' a ah n m lo hi := by
  rcases h with h | ⟨g, zs, e, h1, h2, h3, h4, h5⟩
  · exact .inl h
  · exact .inr ⟨g, zs, e, h1, h2, h3, h4.below hb (by have := h4.lt; omega), h5⟩
theorem hom_start {w : World} {a : Option Addr} {hs : List Int} {lo : Nat} (h : NewS w lo a (hs.map (Value.int .i64))) : HomSt w a hs.length lo w.heap.size := by
  rcases h with h | ⟨g, e, h1, h2⟩
  · left; simpa using h
  · exact .inr ⟨g, hs, e, h1, h2.lt, rfl, h2⟩
theorem mark_start {w : World} {a ah : Option Addr} {hs : List Int} {ms : List Bool} {lo : Nat} (h : NewS w lo ah (hs.map (Value.int .i64))) (h' : NewS w lo a (ms.map Value.bool)) : MarkSt w a ah hs.length ms.length lo w.heap.size := by
  by_cases hm : ms.length = 0
  · exact .inl hm
  rcases h' with h' | ⟨g, e, h1, h2⟩
  · left; simpa using h'
  · refine .inr ⟨g, ms, e, h1, h2.lt, rfl, h2, ?_⟩
    by_cases hn : hs.length = 0
    · exact .inl hn
    · right
      intro g' e' hg
      subst hg
      rcases h with h | ⟨g2, e2, h3, h4⟩
      · simp at h; rw [h] at hn; simp at hn
      · rw [e'] at e2; injection e2 with e2; injection e2 with e2
        subst e2
        have c1 := h2.cell 0 (by simp; omega)
        have c2 := h4.cell 0 (by simp; omega)
        rw [c1] at c2
        obtain ⟨z, hz⟩ : ∃ z, hs[0]? = some z := ⟨_, List.getElem?_eq_getElem (by omega)⟩
        obtain ⟨b, hb⟩ : ∃ b, ms[0]? = some b := ⟨_, List.getElem?_eq_getElem (by omega)⟩
        rw [List.getElem?_map, List.getElem?_map, hz, hb] at c2
        simp at c2

set_option maxHeartbeats 8000000 in
theorem recDec_yes (w : World) (s : ByteArray) (x : Rc) (hn : x.hs.length ≤ 100000) (hm : x.ms.length ≤ 100000)
    (HD : Hid (∀ W, Calls Try.prog 15 #[.string s] W (DecP8 x W)))
    (HR : Hid (∀ W, Calls Try.prog 16 #[.string s] W (DecP8 x W))) :
    Calls Try.prog 4 #[.string s] w fun e w' => e = .returned (.bool true) ∧ Below w.heap.size w w' := by
  go_enter Try.func4, Try.ntmps4
  go_wp2_with fail
  refine (HD.out _).mono ?_
  rintro e w1 ⟨ah, ch, am, cm, rfl, n1, m1, hb1⟩
  have Hh := Lib.hid (hom_start n1)
  have Hm := Lib.hid (mark_start n1 m1)
  have HN1 := Lib.hid n1.vals
  have HM1 := Lib.hid m1.vals
  have K0 := hb1.size
  have r1 := rowAt_alloc w1 #[.int .i64 x.k, .int .u64 x.q, .int .i64 x.at_, .slice ah x.hs.length ch, .slice am x.ms.length cm, .int .u32 x.sum] 27
  have B1 := hb1.alloc hb1.size (.cells #[.int .i64 x.k, .int .u64 x.q, .int .i64 x.at_, .slice ah x.hs.length ch, .slice am x.ms.length cm, .int .u32 x.sum] 27)
  clear n1 m1 hb1
  go_wp2_with fail
  refine (HR.out _).mono ?_
  rintro e w2 ⟨bh, dh, bm, dm, rfl, n2, m2, hb2⟩
  have r2 := r1.below hb2 r1.lt
  have B2 := below_chain B1 hb2 B1.size
  have X2 : Below w1.heap.size w1 w2 := ((Below.refl _ _).alloc (Nat.le_refl _) (.cells #[.int .i64 x.k, .int .u64 x.q, .int .i64 x.at_, .slice ah x.hs.length ch, .slice am x.ms.length cm, .int .u32 x.sum] 27)).trans (below_le hb2 (by simp))
  have S2 := r2.lt
  have r3 := r2.alloc (.cells #[.int .i64 x.k, .int .u64 x.q, .int .i64 x.at_, .slice bh x.hs.length dh, .slice bm x.ms.length dm, .int .u32 x.sum] 27)
  have s3 := rowAt_alloc w2 #[.int .i64 x.k, .int .u64 x.q, .int .i64 x.at_, .slice bh x.hs.length dh, .slice bm x.ms.length dm, .int .u32 x.sum] 27
  have B3 := B2.alloc B2.size (.cells #[.int .i64 x.k, .int .u64 x.q, .int .i64 x.at_, .slice bh x.hs.length dh, .slice bm x.ms.length dm, .int .u32 x.sum] 27)
  have X3 : Below w1.heap.size w1 (w2.alloc (.cells #[.int .i64 x.k, .int .u64 x.q, .int .i64 x.at_, .slice bh x.hs.length dh, .slice bm x.ms.length dm, .int .u32 x.sum] 27)) := X2.alloc (by have := X2.size; omega) _
  have Hh := Lib.hid (Hh.out.below X3 (Nat.le_refl _))
  have Hm := Lib.hid (Hm.out.below X3 (Nat.le_refl _))
  have HN1 := Lib.hid (HN1.out.below X3 (Nat.le_refl _))
  have HM1 := Lib.hid (HM1.out.below X3 (Nat.le_refl _))
  have HN2 := Lib.hid ((n2.less (base' := w1.heap.size) (by simp)).below ((Below.refl _ _).alloc (Nat.le_refl _) (.cells #[.int .i64 x.k, .int .u64 x.q, .int .i64 x.at_, .slice bh x.hs.length dh, .slice bm x.ms.length dm, .int .u32 x.sum] 27)) (Nat.le_refl _))
  have HM2 := Lib.hid ((m2.less (base' := w1.heap.size) (by simp)).below ((Below.refl _ _).alloc (Nat.le_refl _) (.cells #[.int .i64 x.k, .int .u64 x.q, .int .i64 x.at_, .slice bh x.hs.length dh, .slice bm x.ms.length dm, .int .u32 x.sum] 27)) (Nat.le_refl _))
  obtain ⟨c0, c1, c2, c3, c4, c5⟩ := sixr_cells r2
  clear n2 m2 hb2 r1 B1 X2 X3
  go_wp2_with fail
  refine (same8_yes x ah bh ch dh am bm cm dm _ hn hm ⟨HN1.out, HM1.out⟩ ⟨HN2.out.vals, HM2.out.vals⟩).mono ?_
  rintro e w3 ⟨rfl, hb3⟩
  have r3 := r3.below hb3 r3.lt
  have s3 := s3.below hb3 s3.lt
  have B3 := below_chain B3 hb3 B3.size
  have Hh := Lib.hid (Hh.out.below hb3 (Nat.le_refl _))
  have Hm := Lib.hid (Hm.out.below hb3 (Nat.le_refl _))
  have HN2 := Lib.hid (HN2.out.below hb3 (Nat.le_refl _))
  have HM2 := Lib.hid (HM2.out.below hb3 (Nat.le_refl _))
  have c3 : w3.cell? ⟨w1.heap.size, 3, none⟩ = some (.slice ah x.hs.length ch) := r3.cell 3 (by simp)
  have K1 : w1.heap.size < w2.heap.size := S2
  clear hb3 HN1 HM1 c0 c1 c2 c4 c5 r2 S2
  go_wp2_with fail
  generalize w2.heap.size = k2 at *
  generalize w1.heap.size = k1 at *
  clear c3
  go_loopw [7] (fun jj wr => ∃ j : Nat, j ≤ x.hs.length ∧ jj = .int .i64 j ∧ Hid (HomSt wr ah x.hs.length w.heap.size k1) ∧ Hid (MarkSt wr am ah x.hs.length x.ms.length w.heap.size k1) ∧ RowAt wr k1 [.int .i64 x.k, .int .u64 x.q, .int .i64 x.at_, .slice ah x.hs.length ch, .slice am x.ms.length cm, .int .u32 x.sum] ∧ RowAt wr k2 [.int .i64 x.k, .int .u64 x.q, .int .i64 x.at_, .slice bh x.hs.length dh, .slice bm x.ms.length dm, .int .u32 x.sum] ∧ Hid (NewS wr k1 bh (x.hs.map (Value.int .i64))) ∧ Hid (NewS wr k1 bm (x.ms.map Value.bool)) ∧ Below w.heap.size w wr) (fun jj _ => x.hs.length - (intOf jj).toNat)
  case atStart => exact ⟨0, by omega, rfl, Hh, Hm, r3, s3, HN2, HM2, B3⟩
  case round =>
    clear Hh Hm r3 s3 HN2 HM2 B3
    obtain ⟨j, hj, rfl, Hh, Hm, r3, s3, HN2, HM2, B3⟩ := hrel
    have c3 : wr.cell? ⟨k1, 3, none⟩ = some (.slice ah x.hs.length ch) := r3.cell 3 (by simp)
    have L1 := r3.lt
    by_cases hlt : j < x.hs.length
    · rcases Hh.out with h0 | ⟨g, zs, rfl, g1, g2, g3, g4⟩
      · omega
      obtain ⟨z, hz⟩ : ∃ z, zs[j]? = some z := ⟨_, List.getElem?_eq_getElem (by omega)⟩
      have e1 : wr.cell? ⟨g, j, none⟩ = some (.int .i64 z) := by rw [g4.cell j (by simp; omega)]; simp [hz]
      have e2 := g4.frozen j (by simp; omega)
      have h1 : (j : Int) < (x.hs.length : Int) := by omega
      have h2 : (0 : Int) ≤ (j : Int) := by omega
      have h3 : g ≠ k1 := by omega
      have HH2 : Hid (HomSt (wr.setCell ⟨g, j, none⟩ (.int .i64 (-9))) (some ⟨g, 0, none⟩) x.hs.length w.heap.size k1) := by
        have := g4.set j (.int .i64 (-9))
        rw [← List.map_set] at this
        exact .inr ⟨g, zs.set j (-9), rfl, g1, g2, by rw [List.length_set]; exact g3, this⟩
      have HM3 : Hid (MarkSt (wr.setCell ⟨g, j, none⟩ (.int .i64 (-9))) am (some ⟨g, 0, none⟩) x.hs.length x.ms.length w.heap.size k1) := by
        rcases Hm.out with h0 | ⟨g', bs, rfl, p1, p2, p3, p4, p5⟩
        · exact .inl h0
        · refine .inr ⟨g', bs, rfl, p1, p2, p3, p4.other _ _ ?_, p5⟩
          rcases p5 with p5 | p5
          · omega
          · exact fun q => p5 g rfl q.symm
      clear Hh Hm hz g4
      go_wp2_with fail
      go_roundw
      case rel => exact ⟨j + 1, by omega, by go_num, HH2, HM3, r3.other _ _ (by simp; omega), s3.other _ _ (by simp; omega), HN2.out.other _ _ (by simp; omega), HM2.out.other _ _ (by simp; omega), B3.setCell (by simp; omega) _⟩
      case measure => simp [intOf]; omega
    · have h1 : ¬ (j : Int) < (x.hs.length : Int) := by omega
      go_wp2_with fail
      clear c3 h1 hlt Hh
      go_loopw [8] (fun jj wr => ∃ j : Nat, j ≤ x.ms.length ∧ jj = .int .i64 j ∧ Hid (MarkSt wr am ah x.hs.length x.ms.length w.heap.size k1) ∧ RowAt wr k1 [.int .i64 x.k, .int .u64 x.q, .int .i64 x.at_, .slice ah x.hs.length ch, .slice am x.ms.length cm, .int .u32 x.sum] ∧ RowAt wr k2 [.int .i64 x.k, .int .u64 x.q, .int .i64 x.at_, .slice bh x.hs.length dh, .slice bm x.ms.length dm, .int .u32 x.sum] ∧ Hid (NewS wr k1 bh (x.hs.map (Value.int .i64))) ∧ Hid (NewS wr k1 bm (x.ms.map Value.bool)) ∧ Below w.heap.size w wr) (fun jj _ => x.ms.length - (intOf jj).toNat)
      case atStart => exact ⟨0, by omega, rfl, Hm, r3, s3, HN2, HM2, B3⟩
      case round =>
        clear Hm r3 s3 HN2 HM2 B3 L1 hj
        obtain ⟨j, hj, rfl, Hm, r3, s3, HN2, HM2, B3⟩ := hrel
        have c3 : wr.cell? ⟨k1, 4, none⟩ = some (.slice am x.ms.length cm) := r3.cell 4 (by simp)
        have L1 := r3.lt
        by_cases hlt : j < x.ms.length
        · rcases Hm.out with h0 | ⟨g, bs, rfl, g1, g2, g3, g4, g5⟩
          · omega
          obtain ⟨b, hb⟩ : ∃ b, bs[j]? = some b := ⟨_, List.getElem?_eq_getElem (by omega)⟩
          have e1 : wr.cell? ⟨g, j, none⟩ = some (.bool b) := by rw [g4.cell j (by simp; omega)]; simp [hb]
          have e2 := g4.frozen j (by simp; omega)
          have h1 : (j : Int) < (x.ms.length : Int) := by omega
          have h2 : (0 : Int) ≤ (j : Int) := by omega
          have h3 : g ≠ k1 := by omega
          have HM3 : Hid (MarkSt (wr.drew.setCell ⟨g, j, none⟩ (.bool !b)) (some ⟨g, 0, none⟩) ah x.hs.length x.ms.length w.heap.size k1) := by
            have := g4.drew.set j (.bool !b)
            rw [← List.map_set] at this
            exact .inr ⟨g, bs.set j (!b), rfl, g1, g2, by rw [List.length_set]; exact g3, this, g5⟩
          have r4 := r3.drew.other ⟨g, j, none⟩ (.bool !b) (by simp; omega)
          have s4 := s3.drew.other ⟨g, j, none⟩ (.bool !b) (by simp; omega)
          have HN4 := Lib.hid ((show NewS wr.drew k1 bh _ from HN2.out).other ⟨g, j, none⟩ (.bool !b) (by simp; omega))
          have HM4 := Lib.hid ((show NewS wr.drew k1 bm _ from HM2.out).other ⟨g, j, none⟩ (.bool !b) (by simp; omega))
          have B4 := B3.drew.setCell (p := ⟨g, j, none⟩) (by simp; omega) (.bool !b)
          clear Hm hb g4 g5 HN2 HM2 r3 s3
          go_wp2_with fail
          go_still_tail 10, (by kernel_rfl)
          change wpList _ _ _ _ _ (World.drew _)
          go_wp2_with fail
          go_roundw
          case rel => exact ⟨j + 1, by omega, by go_num, HM3, r4, s4, HN4, HM4, B4⟩
          case measure => simp [intOf]; omega
        · have h1 : ¬ (j : Int) < (x.ms.length : Int) := by omega
          go_wp2_with fail
          clear c3 h1 hlt Hm r3
          refine (HD.out _).mono ?_
          rintro e w5 ⟨ah5, ch5, am5, cm5, rfl, n5, m5, hb5⟩
          have s5 := s3.below hb5 s3.lt
          have B5 := below_chain B3 hb5 B3.size
          have HN5 := Lib.hid (n5.vals.alloc (.cells #[.int .i64 x.k, .int .u64 x.q, .int .i64 x.at_, .slice ah5 x.hs.length ch5, .slice am5 x.ms.length cm5, .int .u32 x.sum] 27))
          have HM5 := Lib.hid (m5.vals.alloc (.cells #[.int .i64 x.k, .int .u64 x.q, .int .i64 x.at_, .slice ah5 x.hs.length ch5, .slice am5 x.ms.length cm5, .int .u32 x.sum] 27))
          have B6 := B5.alloc B5.size (.cells #[.int .i64 x.k, .int .u64 x.q, .int .i64 x.at_, .slice ah5 x.hs.length ch5, .slice am5 x.ms.length cm5, .int .u32 x.sum] 27)
          have HN6 := Lib.hid ((HN2.out.vals.below hb5 (Nat.le_refl _)).alloc (.cells #[.int .i64 x.k, .int .u64 x.q, .int .i64 x.at_, .slice ah5 x.hs.length ch5, .slice am5 x.ms.length cm5, .int .u32 x.sum] 27))
          have HM6 := Lib.hid ((HM2.out.vals.below hb5 (Nat.le_refl _)).alloc (.cells #[.int .i64 x.k, .int .u64 x.q, .int .i64 x.at_, .slice ah5 x.hs.length ch5, .slice am5 x.ms.length cm5, .int .u32 x.sum] 27))
          have L5 := s5.lt
          obtain ⟨c0, c1, c2, c3, c4, c5⟩ := sixr_cells s5
          clear n5 m5 hb5 HN2 HM2 s3 B3
          go_wp2_with fail
          refine (same8_yes x ah5 bh ch5 dh am5 bm cm5 dm _ hn hm ⟨HN5.out, HM5.out⟩ ⟨HN6.out, HM6.out⟩).mono ?_
          rintro e w7 ⟨rfl, hb7⟩
          have B7 := below_chain B6 hb7 B6.size
          clear c0 c1 c2 c3 c4 c5 s5 HN5 HM5 HN6 HM6 L5
          go_wp2_with fail
          refine (alive08 _).mono ?_
          rintro e w8 ⟨rfl, hb8⟩
          have B8 := below_chain B7 hb8 B7.size
          go_wp2_with fail
          go_ret
          exact ⟨rfl, B8⟩

set_option maxHeartbeats 8000000 in
theorem recDec_no (w : World) (s : ByteArray)
    (HD : Hid (∀ W, Calls Try.prog 15 #[.string s] W (DecN8 W)))
    (HR : Hid (∀ W, Calls Try.prog 16 #[.string s] W (DecN8 W))) :
    Calls Try.prog 4 #[.string s] w fun e w' => e = .returned (.bool true) ∧ Below w.heap.size w w' := by
  have HS := Lib.hid (fun W => same8_yes Rc.zero none none 0 0 none none 0 0 W (by decide) (by decide) ⟨.inl rfl, .inl rfl⟩ ⟨.inl rfl, .inl rfl⟩ : ∀ W, Calls Try.prog 13 #[rv 0 0 0 none 0 0 none 0 0 0, rv 0 0 0 none 0 0 none 0 0 0] W fun e w' => e = .returned (.bool true) ∧ Below W.heap.size W w')
  go_enter Try.func4, Try.ntmps4
  go_wp2_with fail
  refine (HD.out _).mono ?_
  rintro e w1 ⟨rfl, hb1⟩
  have r1 := rowAt_alloc w1 #[.int .i64 0, .int .u64 0, .int .i64 0, .slice none 0 0, .slice none 0 0, .int .u32 0] 27
  have B1 := hb1.alloc hb1.size (.cells #[.int .i64 0, .int .u64 0, .int .i64 0, .slice none 0 0, .slice none 0 0, .int .u32 0] 27)
  clear hb1
  go_wp2_with fail
  refine (HR.out _).mono ?_
  rintro e w2 ⟨rfl, hb2⟩
  have r2 := r1.below hb2 r1.lt
  have B2 := below_chain B1 hb2 B1.size
  have S2 := r2.lt
  have r3 := r2.alloc (.cells #[.int .i64 0, .int .u64 0, .int .i64 0, .slice none 0 0, .slice none 0 0, .int .u32 0] 27)
  have s3 := rowAt_alloc w2 #[.int .i64 0, .int .u64 0, .int .i64 0, .slice none 0 0, .slice none 0 0, .int .u32 0] 27
  have B3 := B2.alloc B2.size (.cells #[.int .i64 0, .int .u64 0, .int .i64 0, .slice none 0 0, .slice none 0 0, .int .u32 0] 27)
  obtain ⟨c0, c1, c2, c3, c4, c5⟩ := sixr_cells r2
  clear hb2 r1 B1 B2
  go_wp2_with fail
  refine (HS.out _).mono ?_
  rintro e w3 ⟨rfl, hb3⟩
  have r3 := r3.below hb3 r3.lt
  have s3 := s3.below hb3 s3.lt
  have B3 := below_chain B3 hb3 B3.size
  clear c0 c1 c2 c3 c4 c5 r2 hb3
  have c3 : w3.cell? ⟨w1.heap.size, 3, none⟩ = some (.slice none 0 0) := r3.cell 3 (by simp)
  have c4 : w3.cell? ⟨w1.heap.size, 4, none⟩ = some (.slice none 0 0) := r3.cell 4 (by simp)
  have L3 := r3.lt
  go_wp2_with fail
  refine wp_loop_rounds 1 ?_
  rw [rounds_succ]
  go_wp2_with fail
  refine wp_loop_rounds 1 ?_
  rw [rounds_succ]
  go_wp2_with fail
  refine (HD.out _).mono ?_
  rintro e w5 ⟨rfl, hb5⟩
  have s5 := s3.below hb5 s3.lt
  have B5 := below_chain B3 hb5 B3.size
  have B6 := B5.alloc B5.size (.cells #[.int .i64 0, .int .u64 0, .int .i64 0, .slice none 0 0, .slice none 0 0, .int .u32 0] 27)
  have L5 := s5.lt
  clear c3 c4
  obtain ⟨c0, c1, c2, c3, c4, c5⟩ := sixr_cells s5
  clear hb5 s3 B3 r3 L3
  go_wp2_with fail
  refine (HS.out _).mono ?_
  rintro e w7 ⟨rfl, hb7⟩
  have B7 := below_chain B6 hb7 B6.size
  clear c0 c1 c2 c3 c4 c5 s5 L5
  go_wp2_with fail
  refine (alive08 _).mono ?_
  rintro e w8 ⟨rfl, hb8⟩
  have B8 := below_chain B7 hb8 B7.size
  go_wp2_with fail
  go_ret
  exact ⟨rfl, B8⟩

theorem walk_recordsDecode (w : World) (s : ByteArray) (hs0 : s.size ≤ 140737488351232) :
    Calls Try.prog 4 #[.string s] w fun e w' => e = .returned (.bool true) ∧ Below w.heap.size w w' := by
  have hs := size_le_maxLen hs0
  cases hd : recDec s with
  | true =>
    have hl := recP_len s
    refine recDec_yes w s (recP s) hl.1 hl.2 (Lib.hid fun W => pdec_yes s W hs hd) (Lib.hid fun W => ?_)
    have := rdec8_any s W hs
    rw [Dec8, if_pos hd] at this
    exact this
  | false =>
    refine recDec_no w s (Lib.hid fun W => pdec_no s W hs hd) (Lib.hid fun W => ?_)
    have := rdec8_any s W hs
    rw [Dec8, hd] at this
    exact this

/-! ### the frame (printed by mklaw.py) -/

set_option maxRecDepth 100000 in
theorem lifted_recordsDecode (os : Os) (started : os.Started) (H : Type) (enc : TypeId × Value → H) :
    ReturnsInHanded {} Try.checked os 4 .any (Rows.recordsDecodeSpec.pre6 enc Try.prog Try.f4 Rows.recordsDecodeRow.domain false) (Rows.recordsDecodeSpec.post enc Try.prog Try.f4 false true false false) := by
  refine law_step (C := Try.checked) (tb := 4) (by kernel_rfl) (by kernel_rfl) started (by kernel_rfl) Try.func4 rfl Try.underlying4 rfl ?_ ?_
    (ChangeSpec.witness6 (enc := enc) (C := Try.checked) false ⟨#[], #[.string ByteArray.empty], []⟩ 8 (by kernel_rfl) (by kernel_rfl) (by kernel_rfl) (by kernel_rfl)) ?_
  · intro ds hl
    match ds, hl with
    | [d0], _ => rfl
  · intro t ht
    rw [show Try.f4.params.toList = [9] from by rw [Try.params4]] at ht
    simp only [List.mem_cons, List.not_mem_nil, or_false] at ht
    rcases ht with rfl
    · exact ⟨by kernel_rfl, of_decide_eq_true (by kernel_rfl)⟩
  · intro W args hG
    rw [show Try.f4.params.toList = [9] from by rw [Try.params4]] at hG
    obtain ⟨v0, rfl, g0⟩ := gotAll_args1 hG
    obtain ⟨a0, rfl, b0⟩ := got_string Try.underlying9 g0
    exact walk_recordsDecode W a0 b0

theorem recordsDecode_over : Rows.recordsDecodeRow.holds Try.pinned (OpenSpec.ofChange Rows.recordsDecodeSpec) :=
  OpenClaim.holds_of_wide 4 Try.f4 rfl rfl rfl rfl rfl rfl rfl ⟨rfl, rfl, rfl, rfl, rfl⟩ rfl rfl rfl rfl rfl (by kernel_rfl) Try.func4 (by kernel_rfl)
    (of_decide_eq_true (by kernel_rfl)) (by unfold Func.isWrapper; first | (rw [if_pos (by decide +kernel)]; kernel_rfl) | (rw [if_neg (by decide +kernel)]; exact ⟨rfl, rfl⟩))
    (fun os started H enc _ => lifted_recordsDecode os started H enc)

theorem recordsDecode_holds : Rows.RecordsDecodeSaid := recordsDecode_over
#print axioms recordsDecode_holds

end Go.Proofs.Ytfgnemddamebaaa
