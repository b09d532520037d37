/- Walks: a record decoded: kind 2. -/
import Derived.Test.YtfgnemddamebaaaRecWalks6
set_option linter.unusedVariables false
set_option linter.unusedSimpArgs false
set_option maxRecDepth 100000
namespace Go.Proofs.Ytfgnemddamebaaa
open Go.RowKit Go.Joins

set_option maxHeartbeats 16000000 in
theorem dec8_k2 (s : ByteArray) (w : World) (hsz : s.size = 128) (k q : Int) (b1 : Bool) (x : Rc) (bad : Bool) (Post : Ending → World → Prop) (Q : ByteArray) (e0 : Int)
    (HP : Hid (∀ W, Calls Try.prog 35 #[.string s, .string ⟨#[71, 76, 74, 119]⟩] W fun e w' => e = .returned (.bool true) ∧ w' = W))
    (HQ : Hid (∀ W, Calls Try.prog 22 #[.string s, .int .i64 5, .int .i64 8] W fun e w' => e = .returned (.tuple #[.int .u64 q, .bool b1]) ∧ W = w'))
    (HG1 : (Hid (∀ K W, RowAt W K [.string s, .int .i64 4, .bool false] → Calls Try.prog 36 #[.pointer (some ⟨K, 0, none⟩), .int .i64 1] W fun e w' => e = .returned (.int .i64 k) ∧ RowAt w' K [.string s, .int .i64 5, .bool false] ∧ W.grownBy w' (some K))))
    (hkk : Kind2 s k q x bad)
    (HE : Hid (∀ ah ch am cm W, NewS W (w.heap.size + 1 + 1 + 1) ah (x.hs.map (Value.int .i64)) → NewS W (w.heap.size + 1 + 1 + 1) am (x.ms.map Value.bool) → Calls Try.prog 11 #[rcV x ah ch am cm] W fun e w' => e = .returned (.tuple #[.string Q, .int .i64 e0]) ∧ Below W.heap.size W w'))
    (hres : Hid (bad = false ∧ e0 = 0 ∧ (Q.toList == s.toList) = true ∧ Post = DecP8 x w ∨ bad = false ∧ e0 = 0 ∧ (Q.toList == s.toList) = false ∧ Post = DecN8 w ∨ bad = false ∧ e0 = 2 ∧ Post = DecN8 w ∨ bad = true ∧ Post = DecN8 w)) :
    Calls Try.prog 15 #[.string s] w Post := by
  have z0 := rowAt_alloc w #[.int .i64 0, .int .u64 0, .int .i64 0, .slice none 0 0, .slice none 0 0, .int .u32 0] 27
  have z1 := rowAt_alloc (w.alloc (.cells #[.int .i64 0, .int .u64 0, .int .i64 0, .slice none 0 0, .slice none 0 0, .int .u32 0] 27)) #[.int .i64 0, .int .u64 0, .int .i64 0, .slice none 0 0, .slice none 0 0, .int .u32 0] 27
  have z2 := rowAt_alloc ((w.alloc (.cells #[.int .i64 0, .int .u64 0, .int .i64 0, .slice none 0 0, .slice none 0 0, .int .u32 0] 27)).alloc (.cells #[.int .i64 0, .int .u64 0, .int .i64 0, .slice none 0 0, .slice none 0 0, .int .u32 0] 27)) #[.string s, .int .i64 4, .bool false] 68
  have y1 := z1.alloc (.cells #[.string s, .int .i64 4, .bool false] 68)
  have y0 := (z0.alloc (.cells #[.int .i64 0, .int .u64 0, .int .i64 0, .slice none 0 0, .slice none 0 0, .int .u32 0] 27)).alloc (.cells #[.string s, .int .i64 4, .bool false] 68)
  have Y : Below w.heap.size w (((w.alloc (.cells #[.int .i64 0, .int .u64 0, .int .i64 0, .slice none 0 0, .slice none 0 0, .int .u32 0] 27)).alloc (.cells #[.int .i64 0, .int .u64 0, .int .i64 0, .slice none 0 0, .slice none 0 0, .int .u32 0] 27)).alloc (.cells #[.string s, .int .i64 4, .bool false] 68)) := by go_grown
  rw [World.size_alloc, World.size_alloc] at z2
  rw [World.size_alloc] at y1
  clear z0 z1
  go_enter Try.func15, Try.ntmps15
  go_wp2_with fail
  refine (HP.out _).mono ?_
  rintro e w2 ⟨rfl, rfl⟩
  go_wp2_with fail
  refine (HG1.out _ _ z2).mono ?_
  rintro e w3 ⟨rfl, r3, g3⟩
  have B3 := grown_below2 Y g3 (by omega) (by simp; omega)
  have x3 := y1.grown g3 (by simp; try omega)
  have u3 := y0.grown g3 (by simp; try omega)
  clear z2 y1 y0 Y g3
  have L0 : w.heap.size < w3.heap.size := u3.lt
  have L1 : w.heap.size + 1 < w3.heap.size := x3.lt
  have L2 : w.heap.size + 1 + 1 < w3.heap.size := r3.lt
  obtain ⟨c0, c1, c2, c3, c4, c5⟩ := sixr_cells x3
  have F0 := x3.frozen 0 (by simp)
  have F1 := x3.frozen 1 (by simp)
  have G1 := r3.frozen 1 (by simp)
  have d1 : w3.cell? ⟨w.heap.size + 1 + 1, 1, none⟩ = some (.int .i64 5) := r3.cell 1 (by simp)
  have x4 := (x3.set 0 (.int .i64 k)).set 1 (.int .u64 q)
  have r5 : RowAt (((w3.setCell ⟨w.heap.size + 1, 0, none⟩ (.int .i64 k)).setCell ⟨w.heap.size + 1, 1, none⟩ (.int .u64 q)).setCell ⟨w.heap.size + 1 + 1, 1, none⟩ (.int .i64 13)) (w.heap.size + 1 + 1) [.string s, .int .i64 13, .bool false] := ((r3.other ⟨w.heap.size + 1, 0, none⟩ (.int .i64 k) (by simp)).other ⟨w.heap.size + 1, 1, none⟩ (.int .u64 q) (by simp)).set 1 (.int .i64 13)
  have x5 : RowAt (((w3.setCell ⟨w.heap.size + 1, 0, none⟩ (.int .i64 k)).setCell ⟨w.heap.size + 1, 1, none⟩ (.int .u64 q)).setCell ⟨w.heap.size + 1 + 1, 1, none⟩ (.int .i64 13)) (w.heap.size + 1) [.int .i64 k, .int .u64 q, .int .i64 0, .slice none 0 0, .slice none 0 0, .int .u32 0] := x4.other ⟨w.heap.size + 1 + 1, 1, none⟩ (.int .i64 13) (by simp; try omega)
  have u5 := ((u3.other ⟨w.heap.size + 1, 0, none⟩ (.int .i64 k) (by simp; try omega)).other ⟨w.heap.size + 1, 1, none⟩ (.int .u64 q) (by simp; try omega)).other ⟨w.heap.size + 1 + 1, 1, none⟩ (.int .i64 13) (by simp; try omega)
  have B5 : Below w.heap.size w (((w3.setCell ⟨w.heap.size + 1, 0, none⟩ (.int .i64 k)).setCell ⟨w.heap.size + 1, 1, none⟩ (.int .u64 q)).setCell ⟨w.heap.size + 1 + 1, 1, none⟩ (.int .i64 13)) := ((B3.setCell (by simp; try omega) (.int .i64 k)).setCell (by simp; try omega) (.int .u64 q)).setCell (by simp; try omega) (.int .i64 13)
  go_wp2_with fail
  refine (HQ.out _).mono ?_
  rintro e w2 ⟨rfl, rfl⟩
  go_upto_block 0 with fail
  clear c0 c1 c2 c3 c4 c5 F0 F1 G1 d1 x4 u3 x3 r3 B3
  have L3 : w.heap.size + 1 + 1 < (((w3.setCell ⟨w.heap.size + 1, 0, none⟩ (.int .i64 k)).setCell ⟨w.heap.size + 1, 1, none⟩ (.int .u64 q)).setCell ⟨w.heap.size + 1 + 1, 1, none⟩ (.int .i64 13)).heap.size := r5.lt
  generalize (((w3.setCell ⟨w.heap.size + 1, 0, none⟩ (.int .i64 k)).setCell ⟨w.heap.size + 1, 1, none⟩ (.int .u64 q)).setCell ⟨w.heap.size + 1 + 1, 1, none⟩ (.int .i64 13)) = w5 at *
  go_cut [] (fun wx => Cut8 s w x bad wx)
  case first =>
    clear HE hres HP HQ HG1
    obtain ⟨c0, c1, c2, c3, c4, c5⟩ := sixr_cells x5
    obtain ⟨N, M, h, bd, hN, hMN, hbd, hM, HG2, HG3, M2, m3, v, bd2, hM2N, hbd2, hM2, hb0, hm3, HG4, rfl, rfl⟩ := hkk
    obtain ⟨i0, hi, hz0, hz1, hz2⟩ := info_parts info_int8
    have HIi0 := Lib.hid (And.intro hi (And.intro hz0 (And.intro hz1 hz2)))
    clear hi hz0 hz1 hz2
    obtain ⟨i1, hi, hz0, hz1, hz2⟩ := info_parts info_bool8
    have HIi1 := Lib.hid (And.intro hi (And.intro hz0 (And.intro hz1 hz2)))
    clear hi hz0 hz1 hz2
    go_wp2_with fail
    refine (HG2.out _ _ r5).mono ?_
    rintro e w6 ⟨rfl, r6, g6⟩
    have B6 := grown_below2 B5 g6 (by omega) B5.size
    have x6 := x5.grown g6 (by simp; try omega)
    have u6 := u5.grown g6 (by simp; try omega)
    clear c0 c1 c2 c3 c4 c5 x5 u5 r5 B5 g6
    have L4 : w.heap.size + 1 + 1 < w6.heap.size := r6.lt
    go_wp2_with fail
    go_loopw [7] (fun jj wr => ∃ (i : Nat) (a : Option Addr) (cap : Nat), i ≤ M ∧ jj = .int .i64 i ∧ RowAt wr w.heap.size [.int .i64 0, .int .u64 0, .int .i64 0, .slice none 0 0, .slice none 0 0, .int .u32 0] ∧ RowAt wr (w.heap.size + 1) [.int .i64 2, .int .u64 q, .int .i64 0, .slice a i cap, .slice none 0 0, .int .u32 0] ∧ RowAt wr (w.heap.size + 1 + 1) [.string s, .int .i64 (14 + 2 * (i : Int)), .bool (bd i)] ∧ wr.ownsRow (w.heap.size + 1 + 1 + 1) 3 1 (.slice a i cap) i (hvs h i) ∧ Below w.heap.size w wr) (fun jj _ => M - (intOf jj).toNat)
    case atStart => exact ⟨0, none, 0, by omega, rfl, u6, x6, r6, World.ownsRow_nil _ _ _ _, B6⟩
    case round =>
      clear u6 x6 r6 B6 L4
      obtain ⟨i, a, cap, hi, rfl, u6, x6, r6, hown, B6⟩ := hrel
      have L0 := u6.lt
      have L1 := x6.lt
      have L2 := r6.lt
      have HK := Lib.hid hown
      have HL := Lib.hid (fun j hj => World.ownsRow.lt HK.out j hj)
      clear hown
      by_cases hlt : i < M
      · rw [hbd.out i hlt] at r6
        have d2 : wr.cell? ⟨w.heap.size + 1 + 1, 2, none⟩ = some (.bool false) := r6.cell 2 (by simp)
        have d3 : wr.cell? ⟨w.heap.size + 1, 3, none⟩ = some (.slice a i cap) := x6.cell 3 (by simp)
        have h1 : (i : Int) < (N : Int) := by omega
        go_wp2_with fail
        go_region_law (first | (refine step_append_own rfl (.tmp 70) (.tmp 73) 23 rfl (w.heap.size + 1 + 1 + 1) 3 i0 (.int .i64 0) 1 8 Try.underlying23 HIi0.out.1 HIi0.out.2.1 HIi0.out.2.2.1 HIi0.out.2.2.2 rfl (by decide) (.slice a i cap) i (hvs h i) (by simp [Act.eval, Act.put]) (by exact (O7.alloc _)) ⟨w7.heap.size, 0, none⟩ 1 1 [.int .i64 (h i)] (by simp [Act.eval, Act.put]) rfl (by exact row_news8 (rowAt_alloc w7 _ _)) (by intro u hu; simp at hu; subst hu; rfl) (by unfold maxLen; omega) (by omega) (by have := B7.size; have := r7.lt; simp; omega) ?_; intro v' w9 hown9 hg9; obtain ⟨a9, cap9, rfl⟩ := own_form hown9; have x9 := (x7.alloc _).grown hg9 (fun e => by have := (HL.out _ e).1; omega); have u9 := (u7.alloc _).grown hg9 (fun e => by have := (HL.out _ e).1; omega); have r9 := (r7.alloc _).grown hg9 (fun e => by have := (HL.out _ e).1; omega); have C9 := x9.cell 3 (by simp); have F9 := x9.frozen 3 (by simp); have L9 := x9.lt) | (go_simp; go_at_call 36; refine (HG3.out i hlt _ _ (by exact r6.drew)).mono ?_; rintro e w7 ⟨rfl, r7, g7⟩; have x7 := x6.drew.grown g7 (by simp; try omega); have u7 := u6.drew.grown g7 (by simp; try omega); have B7 := grown_below2 B6.drew g7 (by omega) B6.size; have O7 := HK.out.drew.kept g7 (Or.inr (fun e => by have := (HL.out _ e).1; omega)); have C7 := x7.cell 3 (by simp); have F7 := x7.frozen 3 (by simp); have L7 := x7.lt))
        all_goals
          have B9 := grown_below8 (B7.alloc B7.size (.cells #[.int .i64 (h i)] 3)) hg9 (fun j hj => by have := (HL.out j hj).1; omega) (by simp; have := B7.size; omega)
          have HO9 : Hid ((w9.setCell ⟨w.heap.size + 1, 3, none⟩ (.slice a9 (i + 1) cap9)).ownsRow (w.heap.size + 1 + 1 + 1) 3 1 (.slice a9 (i + 1) cap9) (i + 1) (hvs h (i + 1))) := by
            have := own_other hown9 ⟨w.heap.size + 1, 3, none⟩ (.slice a9 (i + 1) cap9) (by simp; try omega)
            rw [hvs_snoc] at this
            exact this
          clear hown9 hg9
          go_wp2_with fail
          go_roundw
          case rel => exact ⟨i + 1, a9, cap9, by omega, by go_num, u9.other _ _ (by simp; try omega), x9.set 3 _, r9.other _ _ (by simp; try omega), HO9.out, B9.setCell (by simp; try omega) _⟩
          case measure => simp [intOf]; omega
      · obtain rfl : i = M := by omega
        have hnew : NewS wr (w.heap.size + 1 + 1 + 1) a (hvs h i) := by
          obtain ⟨a', cap', hv, hn, _⟩ := own_news HK.out
          injection hv with hv1
          rw [hv1]; exact hn
        have HNW := Lib.hid hnew
        clear HK HL hnew HIi0 hlt
        have d2 : wr.cell? ⟨w.heap.size + 1 + 1, 2, none⟩ = some (.bool (bd i)) := r6.cell 2 (by simp)
        have c0 : wr.cell? ⟨w.heap.size + 1, 0, none⟩ = some (.int .i64 2) := x6.cell 0 (by simp)
        cases hb : bd i
        · rw [hb] at d2 r6
          obtain rfl : i = N := by
            rcases hM with e | ⟨_, e⟩
            · exact e
            · rw [hb] at e; cases e
          have hb0' := hb0 hb
          have hM2' := hM2 hb
          have e1 := (hm3.2 hb).1.symm
          have e2 := (hm3.2 hb).2
          subst e1 e2
          have h1 : ¬ (i : Int) < (i : Int) := by omega
          clear hM hMN hi hM2 hb0 hm3 d2 c0 hbd HG3
          go_wp2_with fail
          have r6' : RowAt wr (w.heap.size + 1 + 1) [.string s, .int .i64 (14 + 2 * (i : Int) + ((0 : Nat) : Int)), .bool (bd2 0)] := by rw [hb0', show (14 + 2 * (i : Int) + ((0 : Nat) : Int)) = 14 + 2 * (i : Int) by simp]; exact r6
          clear r6
          obtain ⟨wo, hwo⟩ : ∃ wo, wo = wr := ⟨_, rfl⟩
          have HS0 : wr.heap.size ≤ wr.heap.size := Nat.le_refl _
          generalize hBS : wr.heap.size = BS at HS0
          have hBS' : w.heap.size + 1 + 1 < BS := by omega
          have HNB : Hid (NewS wr (w.heap.size + 1 + 1 + 1) a (hvs h i) ∧ ∀ g, a = some ⟨g, 0, none⟩ → i = 0 ∨ g < BS) := by
            have hn := HNW.out
            refine ⟨hn, fun g hg => ?_⟩
            rcases hn with e | ⟨g', e, _, hr⟩
            · left; simpa [hvs] using e
            · right; rw [hg] at e; injection e with e; injection e with e; have := hr.lt; omega
          have HS1 : BS ≤ wr.heap.size := by omega
          clear HNW hwo L0 L1 L2 hBS HS0 wo
          go_loopw [8] (fun jj wr => ∃ (j : Nat) (a2 : Option Addr) (cap2 : Nat), j ≤ M2 ∧ jj = .int .i64 j ∧ RowAt wr w.heap.size [.int .i64 0, .int .u64 0, .int .i64 0, .slice none 0 0, .slice none 0 0, .int .u32 0] ∧ RowAt wr (w.heap.size + 1) [.int .i64 2, .int .u64 q, .int .i64 0, .slice a i cap, .slice a2 j cap2, .int .u32 0] ∧ RowAt wr (w.heap.size + 1 + 1) [.string s, .int .i64 (14 + 2 * (i : Int) + (j : Int)), .bool (bd2 j)] ∧ wr.ownsRow BS 4 1 (.slice a2 j cap2) j (mvs (fun i => v i == 1) j) ∧ Hid (NewS wr (w.heap.size + 1 + 1 + 1) a (hvs h i) ∧ ∀ g, a = some ⟨g, 0, none⟩ → i = 0 ∨ g < BS) ∧ BS ≤ wr.heap.size ∧ Below w.heap.size w wr) (fun jj _ => M2 - (intOf jj).toNat)
          case atStart => exact ⟨0, none, 0, by omega, rfl, u6, x6, r6', World.ownsRow_nil _ _ _ _, HNB, HS1, B6⟩
          case round =>
            clear u6 x6 r6' B6 HNB HS1
            obtain ⟨j, a2, cap2, hj, rfl, u6, x6, r6, hown, HNB, HS1, B6⟩ := hrel
            have L0 := u6.lt
            have L1 := x6.lt
            have L2 := r6.lt
            have HK := Lib.hid hown
            have HL := Lib.hid (fun j hj => World.ownsRow.lt HK.out j hj)
            clear hown
            have c0 : wr.cell? ⟨w.heap.size + 1, 0, none⟩ = some (.int .i64 2) := x6.cell 0 (by simp)
            by_cases hlt : j < M2
            · rw [hbd2.out j hlt] at r6
              have d2 : wr.cell? ⟨w.heap.size + 1 + 1, 2, none⟩ = some (.bool false) := r6.cell 2 (by simp)
              have d3 : wr.cell? ⟨w.heap.size + 1, 4, none⟩ = some (.slice a2 j cap2) := x6.cell 4 (by simp)
              have h1 : (j : Int) < (i : Int) := by omega
              go_wp2_with fail
              go_region_law (first | (refine step_append_own rfl (.tmp 94) (.tmp 98) 24 rfl (BS) 4 i1 (.bool false) 1 1 Try.underlying24 HIi1.out.1 HIi1.out.2.1 HIi1.out.2.2.1 HIi1.out.2.2.2 rfl (by decide) (.slice a2 j cap2) j (mvs (fun i => v i == 1) j) (by simp [Act.eval, Act.put]) (by exact (O7.alloc _)) ⟨w7.heap.size, 0, none⟩ 1 1 [.bool (v j == 1)] (by simp [Act.eval, Act.put]) rfl (by exact row_news8 (rowAt_alloc w7 _ _)) (by intro u hu; simp at hu; subst hu; rfl) (by unfold maxLen; omega) (by omega) (by have h9 := g7.size; simp at h9 ⊢; omega) ?_; intro v' w9 hown9 hg9; obtain ⟨a9, cap9, rfl⟩ := own_form hown9; have x9 := (x7.alloc _).grown hg9 (fun e => by have := (HL.out _ e).1; omega); have u9 := (u7.alloc _).grown hg9 (fun e => by have := (HL.out _ e).1; omega); have r9 := (r7.alloc _).grown hg9 (fun e => by have := (HL.out _ e).1; omega); have C9 := x9.cell 4 (by simp); have F9 := x9.frozen 4 (by simp); have L9 := x9.lt) | (go_simp; go_at_call 36; refine (HG4.out j hlt _ _ (by exact r6.drew)).mono ?_; rintro e w7 ⟨rfl, r7, g7⟩; have x7 := x6.drew.grown g7 (by simp; try omega); have u7 := u6.drew.grown g7 (by simp; try omega); have B7 := grown_below2 B6.drew g7 (by omega) B6.size; have O7 := HK.out.drew.kept g7 (Or.inr (fun e => by have := (HL.out _ e).1; omega)); have C7 := x7.cell 4 (by simp); have F7 := x7.frozen 4 (by simp); have L7 := x7.lt))
              all_goals
                have HNB9 : Hid (NewS w9 (w.heap.size + 1 + 1 + 1) a (hvs h i) ∧ ∀ g, a = some ⟨g, 0, none⟩ → i = 0 ∨ g < BS) := by
                  refine ⟨?_, HNB.out.2⟩
                  have hn7 : NewS w7 (w.heap.size + 1 + 1 + 1) a (hvs h i) := (show NewS wr.drew _ a _ from HNB.out.1).grown8 g7 (fun k g hk hg hbg hgl => by injection hk; omega)
                  have hn7' := hn7.below ((Below.refl _ _).alloc (Nat.le_refl _) (.cells #[.bool (v j == 1)] 4)) (Nat.le_refl _)
                  rcases hn7' with e | ⟨g, e, hg1, hg2⟩
                  · exact .inl e
                  · rcases HNB.out.2 g e with e0 | e0
                    · left; rw [e0]; rfl
                    · exact .inr ⟨g, e, hg1, hg2.grown hg9 (fun e => by have := (HL.out _ e).1; omega)⟩
                have B9 := grown_below8 (B7.alloc B7.size (.cells #[.bool (v j == 1)] 4)) hg9 (fun j hj => by have := (HL.out j hj).1; omega) (by simp; have := B7.size; omega)
                have S9 : BS ≤ w9.heap.size := by have h8 := hg9.size; have h9 := g7.size; simp at h8 h9; omega
                have HO9 : Hid ((w9.setCell ⟨w.heap.size + 1, 4, none⟩ (.slice a9 (j + 1) cap9)).ownsRow BS 4 1 (.slice a9 (j + 1) cap9) (j + 1) (mvs (fun i => v i == 1) (j + 1))) := by
                  have := own_other hown9 ⟨w.heap.size + 1, 4, none⟩ (.slice a9 (j + 1) cap9) (by simp; try omega)
                  rw [mvs_snoc] at this
                  exact this
                clear hown9 hg9 g7
                go_wp2_with fail
                go_roundw
                case rel => exact ⟨j + 1, a9, cap9, by omega, by go_num, u9.other _ _ (by simp; try omega), x9.set 4 _, r9.other _ _ (by simp; try omega), HO9.out, ⟨HNB9.out.1.other _ _ (by simp; try omega), HNB9.out.2⟩, by simp; exact S9, B9.setCell (by simp; try omega) _⟩
                case measure => simp [intOf]; omega
            · obtain rfl : j = M2 := by omega
              have hnew : NewS wr (w.heap.size + 1 + 1 + 1) a2 (mvs (fun i => v i == 1) j) := by
                obtain ⟨a', cap', hv, hn, _⟩ := own_news HK.out
                injection hv with hv1
                rw [hv1]; exact hn.less (by omega)
              have HMW := Lib.hid hnew
              clear HK HL hnew HIi1 hlt
              have d2 : wr.cell? ⟨w.heap.size + 1 + 1, 2, none⟩ = some (.bool (bd2 j)) := r6.cell 2 (by simp)
              cases hb2 : bd2 j
              · rw [hb2] at d2 r6
                have h3 : ¬ (j : Int) < (i : Int) := by
                  rcases hM2' with e | ⟨_, e⟩
                  · omega
                  · rw [hb2] at e; cases e
                clear hM2' hj
                go_wp2_with fail
                go_meet
                case rel => exact ⟨a, cap, a2, cap2, _, u6, by rw [hls_len, mls_len]; exact x6, by rw [hb2]; exact r6, by rw [hls_vals]; exact HNB.out.1, by rw [mls_vals]; exact HMW.out, B6⟩
              · rw [hb2] at d2 r6
                have h3 : (j : Int) < (i : Int) ∨ ¬ (j : Int) < (i : Int) := by omega
                clear hM2' hj
                rcases h3 with h3 | h3
                · go_wp2_with fail
                  go_meet
                  case rel => exact ⟨a, cap, a2, cap2, _, u6, by rw [hls_len, mls_len]; exact x6, by rw [hb2]; exact r6, by rw [hls_vals]; exact HNB.out.1, by rw [mls_vals]; exact HMW.out, B6⟩
                · go_wp2_with fail
                  go_meet
                  case rel => exact ⟨a, cap, a2, cap2, _, u6, by rw [hls_len, mls_len]; exact x6, by rw [hb2]; exact r6, by rw [hls_vals]; exact HNB.out.1, by rw [mls_vals]; exact HMW.out, B6⟩
        · rw [hb] at d2 r6
          obtain ⟨rfl, rfl⟩ := hm3.1 hb
          have h2 : ((i : Int) = 0 ∧ ¬ (i : Int) < (N : Int) ∧ (N : Int) = 0) ∨ (¬ (i : Int) < (N : Int) ∧ (0 : Int) < (N : Int)) ∨ ((i : Int) < (N : Int) ∧ (0 : Int) < (N : Int)) := by omega
          clear hM hMN hi
          rcases h2 with ⟨h4, h1, h3⟩ | ⟨h1, h3⟩ | ⟨h1, h3⟩
          · go_wp2_with fail
            refine wp_loop_rounds 1 ?_
            rw [rounds_succ]
            go_wp2_with fail
            go_meet
            case rel => exact ⟨a, cap, none, 0, _, u6, by rw [hls_len]; exact x6, r6, by rw [hls_vals]; exact HNW.out, .inl rfl, B6⟩
          · go_wp2_with fail
            refine wp_loop_rounds 1 ?_
            rw [rounds_succ]
            go_wp2_with fail
            go_meet
            case rel => exact ⟨a, cap, none, 0, _, u6, by rw [hls_len]; exact x6, r6, by rw [hls_vals]; exact HNW.out, .inl rfl, B6⟩
          · go_wp2_with fail
            refine wp_loop_rounds 1 ?_
            rw [rounds_succ]
            go_wp2_with fail
            go_meet
            case rel => exact ⟨a, cap, none, 0, _, u6, by rw [hls_len]; exact x6, r6, by rw [hls_vals]; exact HNW.out, .inl rfl, B6⟩
  case rest =>
    clear hkk x5 u5 r5 B5 L0 L1 L2 L3 HP HQ HG1
    obtain ⟨ah, ch, am, cm, tt, u7, x7, r7, hN, hM, B7⟩ := hcut
    have HNW := Lib.hid hN
    have HMW := Lib.hid hM
    clear hN hM
    obtain ⟨c0, c1, c2, c3, c4, c5⟩ := sixr_cells x7
    have L1 := x7.lt
    have L2 := r7.lt
    go_wp2_with fail
    refine (HE.out ah ch am cm _ HNW.out HMW.out).mono ?_
    rintro e w8 ⟨rfl, hb8⟩
    have x8 := x7.below hb8 x7.lt
    have u8 := u7.below hb8 u7.lt
    have r8 := r7.below hb8 r7.lt
    have B8 := below_chain B7 hb8 B7.size
    have HN8 := Lib.hid (HNW.out.below hb8 (Nat.le_refl _))
    have HM8 := Lib.hid (HMW.out.below hb8 (Nat.le_refl _))
    have d2 : w8.cell? ⟨w.heap.size + 1 + 1, 2, none⟩ = some (.bool bad) := r8.cell 2 (by simp)
    have L8 := r8.lt
    clear c0 c1 c2 c3 c4 c5 hb8 B7 HNW HMW u7 x7 r7 L1 L2
    have y0 := u8.frozen 0 (by simp)
    have y1 := u8.frozen 1 (by simp)
    have y2 := u8.frozen 2 (by simp)
    have y3 := u8.frozen 3 (by simp)
    have y4 := u8.frozen 4 (by simp)
    have y5 := u8.frozen 5 (by simp)
    have hm8 := u8.lt
    obtain ⟨c0, c1, c2, c3, c4, c5⟩ := sixr_cells x8
    obtain ⟨z0, z1, z2, z3, z4, z5⟩ := sixr_cells u8
    rcases hres.out with ⟨rfl, rfl, h1, hP⟩ | ⟨rfl, rfl, h1, hP⟩ | ⟨rfl, rfl, hP⟩ | ⟨rfl, hP⟩
    · have HPo := Lib.hid hP
      clear hP
      go_wp2_with fail
      refine bodyPost_ret (v := .tuple #[rcV x ah ch am cm, .int .i64 0]) ?_ rfl ?_
      · have hfin := ((((((u8.set 0 (.int .i64 x.k)).set 1 (.int .u64 x.q)).set 2 (.int .i64 x.at_)).set 3 (.slice ah x.hs.length ch)).set 4 (.slice am x.ms.length cm)).set 5 (.int .u32 x.sum))
        obtain ⟨t0, t1, t2, t3, t4, t5⟩ := sixr_cells (show RowAt _ _ [.int .i64 x.k, .int .u64 x.q, .int .i64 x.at_, .slice ah x.hs.length ch, .slice am x.ms.length cm, .int .u32 x.sum] from hfin)
        simp [results, Try.results15, go_sem, t0, t1, t2, t3, t4, t5]; done
      · rw [HPo.out]
        refine ⟨ah, ch, am, cm, rfl, ?_, ?_, ?_⟩
        · refine NewS.less (base := w.heap.size + 1 + 1 + 1) ?_ (by omega)
          exact (((((HN8.out.other _ _ (by simp; try omega)).other _ _ (by simp; try omega)).other _ _ (by simp; try omega)).other _ _ (by simp; try omega)).other _ _ (by simp; try omega)).other _ _ (by simp; try omega)
        · refine NewS.less (base := w.heap.size + 1 + 1 + 1) ?_ (by omega)
          exact (((((HM8.out.other _ _ (by simp; try omega)).other _ _ (by simp; try omega)).other _ _ (by simp; try omega)).other _ _ (by simp; try omega)).other _ _ (by simp; try omega)).other _ _ (by simp; try omega)
        · go_grown
    · have HPo := Lib.hid hP
      clear hP
      go_wp2_with fail
      refine bodyPost_ret (v := .tuple #[rv 0 0 0 none 0 0 none 0 0 0, .int .i64 80]) ?_ rfl ?_
      · have hfin := ((((((u8.set 0 (.int .i64 0)).set 1 (.int .u64 0)).set 2 (.int .i64 0)).set 3 (.slice none 0 0)).set 4 (.slice none 0 0)).set 5 (.int .u32 0))
        obtain ⟨t0, t1, t2, t3, t4, t5⟩ := sixr_cells (show RowAt _ _ [.int .i64 0, .int .u64 0, .int .i64 0, .slice none 0 0, .slice none 0 0, .int .u32 0] from hfin)
        simp [results, Try.results15, go_sem, t0, t1, t2, t3, t4, t5]; done
      · rw [HPo.out]
        refine ⟨rfl, ?_⟩
        go_grown
    · have HPo := Lib.hid hP
      clear hP
      go_wp2_with fail
      refine bodyPost_ret (v := .tuple #[rv 0 0 0 none 0 0 none 0 0 0, .int .i64 80]) ?_ rfl ?_
      · have hfin := ((((((u8.set 0 (.int .i64 0)).set 1 (.int .u64 0)).set 2 (.int .i64 0)).set 3 (.slice none 0 0)).set 4 (.slice none 0 0)).set 5 (.int .u32 0))
        obtain ⟨t0, t1, t2, t3, t4, t5⟩ := sixr_cells (show RowAt _ _ [.int .i64 0, .int .u64 0, .int .i64 0, .slice none 0 0, .slice none 0 0, .int .u32 0] from hfin)
        simp [results, Try.results15, go_sem, t0, t1, t2, t3, t4, t5]; done
      · rw [HPo.out]
        refine ⟨rfl, ?_⟩
        go_grown
    · have HPo := Lib.hid hP
      clear hP
      go_wp2_with fail
      refine bodyPost_ret (v := .tuple #[rv 0 0 0 none 0 0 none 0 0 0, .int .i64 80]) ?_ rfl ?_
      · have hfin := ((((((u8.set 0 (.int .i64 0)).set 1 (.int .u64 0)).set 2 (.int .i64 0)).set 3 (.slice none 0 0)).set 4 (.slice none 0 0)).set 5 (.int .u32 0))
        obtain ⟨t0, t1, t2, t3, t4, t5⟩ := sixr_cells (show RowAt _ _ [.int .i64 0, .int .u64 0, .int .i64 0, .slice none 0 0, .slice none 0 0, .int .u32 0] from hfin)
        simp [results, Try.results15, go_sem, t0, t1, t2, t3, t4, t5]; done
      · rw [HPo.out]
        refine ⟨rfl, ?_⟩
        go_grown

end Go.Proofs.Ytfgnemddamebaaa
