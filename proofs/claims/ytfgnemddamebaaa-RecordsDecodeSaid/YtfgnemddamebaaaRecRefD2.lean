/- Walks: a record decoded: the document's answer: kind 3. -/
import Derived.Test.YtfgnemddamebaaaRecRefD
import Derived.IntWalk
set_option linter.unusedVariables false
set_option linter.unusedSimpArgs false
set_option maxRecDepth 100000
namespace Go.Proofs.Ytfgnemddamebaaa
open Go.RowKit Go.Joins

set_option maxHeartbeats 16000000 in
theorem rdec8_k3 (s : ByteArray) (w : World) (hsz : s.size = 128) (k q N : Int) (hk0 : 0 ≤ k) (hk1 : k ≤ 255) (hN0 : 0 ≤ N) (hN1 : N ≤ 255) (b1 : Bool) (x : Rc) (Post : Ending → World → Prop) (Q : ByteArray) (e0 : Int)
    (ht : ((s.extract 0 4).toList == [71, 76, 74, 119]) = true)
    (i4 : ∀ w, (Instr.index 9 (.string s) (.int .i64 4)).run Try.prog w = .ok (.int .u8 k) w)
    (i13 : ∀ w, (Instr.index 9 (.string s) (.int .i64 13)).run Try.prog w = .ok (.int .u8 N) w)
    (HQ : Hid (∀ W, Calls Try.prog 37 #[.string s, .int .i64 5, .int .i64 8] W fun e w' => e = .returned (.tuple #[.int .u64 q, .bool b1]) ∧ W = w'))
    (hkk : KindR3 s k q N x)
    (HE : Hid (∀ ah ch am cm W, NewS W (w.heap.size + 1 + 1) ah (x.hs.map (Value.int .i64)) → NewS W (w.heap.size + 1 + 1) am (x.ms.map Value.bool) → Calls Try.prog 12 #[rcV x ah ch am cm] W fun e w' => e = .returned (.tuple #[.string Q, .int .i64 e0]) ∧ Below W.heap.size W w'))
    (hres : Hid (e0 = 0 ∧ (Q.toList == s.toList) = true ∧ Post = DecP8 x w ∨ e0 = 0 ∧ (Q.toList == s.toList) = false ∧ Post = DecN8 w ∨ e0 = 2 ∧ Post = DecN8 w)) :
    Calls Try.prog 16 #[.string s] w Post := by
  have z0 := rowAt_alloc w #[.int .i64 0, .int .u64 0, .int .i64 0, .slice none 0 0, .slice none 0 0, .int .u32 0] 27
  have x5 := rowAt_alloc (w.alloc (.cells #[.int .i64 0, .int .u64 0, .int .i64 0, .slice none 0 0, .slice none 0 0, .int .u32 0] 27)) #[.int .i64 k, .int .u64 q, .int .i64 0, .slice none 0 0, .slice none 0 0, .int .u32 0] 27
  have u5 := z0.alloc (.cells #[.int .i64 k, .int .u64 q, .int .i64 0, .slice none 0 0, .slice none 0 0, .int .u32 0] 27)
  have B5 : Below w.heap.size w ((w.alloc (.cells #[.int .i64 0, .int .u64 0, .int .i64 0, .slice none 0 0, .slice none 0 0, .int .u32 0] 27)).alloc (.cells #[.int .i64 k, .int .u64 q, .int .i64 0, .slice none 0 0, .slice none 0 0, .int .u32 0] 27)) := by go_grown
  rw [World.size_alloc] at x5
  clear z0
  go_enter Try.func16, Try.ntmps16
  go_wp2_with fail
  refine (HQ.out _).mono ?_
  rintro e w2 ⟨rfl, rfl⟩
  go_upto_block 0 with fail
  have L3 : w.heap.size + 1 < ((w.alloc (.cells #[.int .i64 0, .int .u64 0, .int .i64 0, .slice none 0 0, .slice none 0 0, .int .u32 0] 27)).alloc (.cells #[.int .i64 k, .int .u64 q, .int .i64 0, .slice none 0 0, .slice none 0 0, .int .u32 0] 27)).heap.size := x5.lt
  generalize (w.alloc (.cells #[.int .i64 0, .int .u64 0, .int .i64 0, .slice none 0 0, .slice none 0 0, .int .u32 0] 27)).alloc (.cells #[.int .i64 k, .int .u64 q, .int .i64 0, .slice none 0 0, .slice none 0 0, .int .u32 0] 27) = w5 at *
  clear i4 i13 ht
  go_cut [] (fun wx => CutR8 w x wx)
  case first =>
    clear HE hres HQ
    obtain ⟨c0, c1, c2, c3, c4, c5⟩ := sixr_cells x5
    obtain ⟨M, h, ⟨hMN, hM40, hM, rfl, HG3⟩, rfl⟩ := hkk
    obtain ⟨i0, hi, hz0, hz1, hz2⟩ := info_parts info_int8
    have HIi0 := Lib.hid (And.intro hi (And.intro hz0 (And.intro hz1 hz2)))
    clear hi hz0 hz1 hz2
    go_wp2_with fail
    clear c0 c1 c2 c3 c4 c5
    go_loopw [12, 13, 14] (fun jj _ _ wr => ∃ (i : Nat) (a : Option Addr) (cap : Nat), i ≤ M ∧ jj = .int .i64 i ∧ RowAt wr w.heap.size [.int .i64 0, .int .u64 0, .int .i64 0, .slice none 0 0, .slice none 0 0, .int .u32 0] ∧ RowAt wr (w.heap.size + 1) [.int .i64 3, .int .u64 q, .int .i64 0, .slice a i cap, .slice none 0 0, .int .u32 0] ∧ wr.ownsRow (w.heap.size + 1 + 1) 3 1 (.slice a i cap) i (hvs h i) ∧ Below w.heap.size w wr) (fun jj _ _ _ => M - (intOf jj).toNat)
    case atStart => exact ⟨0, none, 0, by omega, rfl, u5, x5, World.ownsRow_nil _ _ _ _, B5⟩
    case round =>
      clear u5 x5 B5 L3
      obtain ⟨i, a, cap, hi, rfl, u6, x6, hown, B6⟩ := hrel
      have L0 := u6.lt
      have L1 := x6.lt
      have HK := Lib.hid hown
      have HL := Lib.hid (fun j hj => World.ownsRow.lt HK.out j hj)
      clear hown
      by_cases hlt : i < M
      · have d3 : wr.cell? ⟨w.heap.size + 1, 3, none⟩ = some (.slice a i cap) := x6.cell 3 (by simp)
        have F3 := x6.frozen 3 (by simp)
        have h1 : (i : Int) < N := by omega
        have h2 : (i : Int) < 40 := by omega
        obtain ⟨g0, g1, gb, HG⟩ := HG3.out i hlt
        have HG := Lib.hid HG
        go_wp2_with fail
        refine (HG.out _).mono ?_
        rintro e w7 ⟨rfl, rfl⟩
        have e1 : (IntKind.i64.wrap (h i)) = h i := IntWalk.i64_in _ (by omega)
        have HR2 := Lib.hid (row_news8 (rowAt_alloc wr #[.int .i64 (h i)] 3))
        go_wp2_with (at_builtin; refine wpList_append_own _ rfl _ _ 23 rfl (w.heap.size + 1 + 1) 3 i0 (.int .i64 0) 1 8 Try.underlying23 HIi0.out.1 HIi0.out.2.1 HIi0.out.2.2.1 HIi0.out.2.2.2 rfl (by decide) _ i _ rfl (HK.out.alloc _) ⟨wr.heap.size, 0, none⟩ 1 1 [.int .i64 (h i)] rfl rfl HR2.out (by intro u hu; simp at hu; subst hu; rfl) (by unfold maxLen; omega) (by omega) (by simp; omega) ?_)
        intro v' w9 hown9 hg9 _
        obtain ⟨a9, cap9, rfl⟩ := own_form hown9
        have x9 := (x6.alloc (.cells #[.int .i64 (h i)] 3)).grown hg9 (fun e => by have := (HL.out _ e).1; omega)
        have u9 := (u6.alloc (.cells #[.int .i64 (h i)] 3)).grown hg9 (fun e => by have := (HL.out _ e).1; omega)
        have C9 := x9.cell 3 (by simp)
        have F9 := x9.frozen 3 (by simp)
        have L9 := x9.lt
        have B9 := grown_below8 (B6.alloc B6.size (.cells #[.int .i64 (h i)] 3)) hg9 (fun j hj => by have := (HL.out j hj).1; omega) (by simp; have := B6.size; omega)
        have HO9 : Hid ((w9.setCell ⟨w.heap.size + 1, 3, none⟩ (.slice a9 (i + 1) cap9)).ownsRow (w.heap.size + 1 + 1) 3 1 (.slice a9 (i + 1) cap9) (i + 1) (hvs h (i + 1))) := by
          have := own_other hown9 ⟨w.heap.size + 1, 3, none⟩ (.slice a9 (i + 1) cap9) (by simp; try omega)
          rw [hvs_snoc] at this
          exact this
        clear hown9 hg9 d3 F3 HR2 e1
        go_wp2_with fail
        go_roundw
        case rel => exact ⟨i + 1, a9, cap9, by omega, by go_num, u9.other _ _ (by simp; try omega), x9.set 3 _, HO9.out, B9.setCell (by simp; try omega) _⟩
        case measure => simp [intOf]; omega
      · obtain rfl : i = M := by omega
        have hnew : NewS wr (w.heap.size + 1 + 1) a (hvs h i) := by
          obtain ⟨a', cap', hv, hn, _⟩ := own_news HK.out
          injection hv with hv1
          rw [hv1]; exact hn
        have HNW := Lib.hid hnew
        clear HK HL hnew HIi0 hlt
        have c0 : wr.cell? ⟨w.heap.size + 1, 0, none⟩ = some (.int .i64 3) := x6.cell 0 (by simp)
        have h2 : ((i : Int) = N ∧ N ≤ 40 ∨ (i : Int) = 40 ∧ 40 ≤ N) := by omega
        have h5 : (0 : Int) < N ∨ (N = 0 ∧ (i : Int) = 0) := by omega
        have HH2 := Lib.hid h2
        have HH5 := Lib.hid h5
        clear h2 h5 hM hMN hM40
        have LEND : CutR8 w ⟨3, q, 0, hls h i, [], 0⟩ wr := ⟨a, cap, none, 0, u6, by rw [hls_len]; exact x6, by rw [hls_vals]; exact HNW.out, .inl rfl, B6⟩
        rcases HH2.out with ⟨q1, q2⟩ | ⟨q1, q2⟩
        · have q3 : ¬ (i : Int) < N := by omega
          clear q1 q2
          rcases HH5.out with q4 | ⟨q4, q5⟩
          · go_wp2_with fail
            refine wp_loop_rounds 1 ?_
            rw [rounds_succ]
            go_wp2_with fail
            go_meet
            case rel => exact LEND
          · have q6 : ¬ (0 : Int) < N := by omega
            clear q4 q5
            go_wp2_with fail
            refine wp_loop_rounds 1 ?_
            rw [rounds_succ]
            go_wp2_with fail
            go_meet
            case rel => exact LEND
        · have q6 : (0 : Int) < N := by omega
          by_cases q7 : (i : Int) < N
          · have q3 : ¬ (i : Int) < 40 := by omega
            clear q1 q2
            go_wp2_with fail
            refine wp_loop_rounds 1 ?_
            rw [rounds_succ]
            go_wp2_with fail
            go_meet
            case rel => exact LEND
          · clear q1 q2
            go_wp2_with fail
            refine wp_loop_rounds 1 ?_
            rw [rounds_succ]
            go_wp2_with fail
            go_meet
            case rel => exact LEND
  case rest =>
    clear hkk x5 u5 B5 L3 HQ
    obtain ⟨ah, ch, am, cm, u7, x7, hN, hM, B7⟩ := hcut
    have HNW := Lib.hid hN
    have HMW := Lib.hid hM
    clear hN hM
    obtain ⟨c0, c1, c2, c3, c4, c5⟩ := sixr_cells x7
    have L1 := x7.lt
    go_wp2_with fail
    refine (HE.out ah ch am cm _ HNW.out HMW.out).mono ?_
    rintro e w8 ⟨rfl, hb8⟩
    have x8 := x7.below hb8 x7.lt
    have u8 := u7.below hb8 u7.lt
    have B8 := below_chain B7 hb8 B7.size
    have HN8 := Lib.hid (HNW.out.below hb8 (Nat.le_refl _))
    have HM8 := Lib.hid (HMW.out.below hb8 (Nat.le_refl _))
    have L8 := x8.lt
    clear c0 c1 c2 c3 c4 c5 hb8 B7 HNW HMW u7 x7 L1
    have y0 := u8.frozen 0 (by simp)
    have y1 := u8.frozen 1 (by simp)
    have y2 := u8.frozen 2 (by simp)
    have y3 := u8.frozen 3 (by simp)
    have y4 := u8.frozen 4 (by simp)
    have y5 := u8.frozen 5 (by simp)
    have hm8 := u8.lt
    obtain ⟨c0, c1, c2, c3, c4, c5⟩ := sixr_cells x8
    obtain ⟨z0, z1, z2, z3, z4, z5⟩ := sixr_cells u8
    rcases hres.out with ⟨rfl, h1, hP⟩ | ⟨rfl, h1, hP⟩ | ⟨rfl, hP⟩
    · have HPo := Lib.hid hP
      clear hP
      go_wp2_with fail
      refine bodyPost_ret (v := .tuple #[rcV x ah ch am cm, .int .i64 0]) ?_ rfl ?_
      · have hfin := ((((((u8.set 0 (.int .i64 x.k)).set 1 (.int .u64 x.q)).set 2 (.int .i64 x.at_)).set 3 (.slice ah x.hs.length ch)).set 4 (.slice am x.ms.length cm)).set 5 (.int .u32 x.sum))
        obtain ⟨t0, t1, t2, t3, t4, t5⟩ := sixr_cells (show RowAt _ _ [.int .i64 x.k, .int .u64 x.q, .int .i64 x.at_, .slice ah x.hs.length ch, .slice am x.ms.length cm, .int .u32 x.sum] from hfin)
        simp [results, Try.results16, go_sem, t0, t1, t2, t3, t4, t5]; done
      · rw [HPo.out]
        refine ⟨ah, ch, am, cm, rfl, ?_, ?_, ?_⟩
        · refine NewS.less (base := w.heap.size + 1 + 1) ?_ (by omega)
          exact (((((HN8.out.other _ _ (by simp; try omega)).other _ _ (by simp; try omega)).other _ _ (by simp; try omega)).other _ _ (by simp; try omega)).other _ _ (by simp; try omega)).other _ _ (by simp; try omega)
        · refine NewS.less (base := w.heap.size + 1 + 1) ?_ (by omega)
          exact (((((HM8.out.other _ _ (by simp; try omega)).other _ _ (by simp; try omega)).other _ _ (by simp; try omega)).other _ _ (by simp; try omega)).other _ _ (by simp; try omega)).other _ _ (by simp; try omega)
        · go_grown
    · have HPo := Lib.hid hP
      clear hP
      go_wp2_with fail
      refine bodyPost_ret (v := .tuple #[rv 0 0 0 none 0 0 none 0 0 0, .int .i64 80]) ?_ rfl ?_
      · have hfin := ((((((u8.set 0 (.int .i64 0)).set 1 (.int .u64 0)).set 2 (.int .i64 0)).set 3 (.slice none 0 0)).set 4 (.slice none 0 0)).set 5 (.int .u32 0))
        obtain ⟨t0, t1, t2, t3, t4, t5⟩ := sixr_cells (show RowAt _ _ [.int .i64 0, .int .u64 0, .int .i64 0, .slice none 0 0, .slice none 0 0, .int .u32 0] from hfin)
        simp [results, Try.results16, go_sem, t0, t1, t2, t3, t4, t5]; done
      · rw [HPo.out]
        refine ⟨rfl, ?_⟩
        go_grown
    · have HPo := Lib.hid hP
      clear hP
      go_wp2_with fail
      refine bodyPost_ret (v := .tuple #[rv 0 0 0 none 0 0 none 0 0 0, .int .i64 80]) ?_ rfl ?_
      · have hfin := ((((((u8.set 0 (.int .i64 0)).set 1 (.int .u64 0)).set 2 (.int .i64 0)).set 3 (.slice none 0 0)).set 4 (.slice none 0 0)).set 5 (.int .u32 0))
        obtain ⟨t0, t1, t2, t3, t4, t5⟩ := sixr_cells (show RowAt _ _ [.int .i64 0, .int .u64 0, .int .i64 0, .slice none 0 0, .slice none 0 0, .int .u32 0] from hfin)
        simp [results, Try.results16, go_sem, t0, t1, t2, t3, t4, t5]; done
      · rw [HPo.out]
        refine ⟨rfl, ?_⟩
        go_grown

end Go.Proofs.Ytfgnemddamebaaa
