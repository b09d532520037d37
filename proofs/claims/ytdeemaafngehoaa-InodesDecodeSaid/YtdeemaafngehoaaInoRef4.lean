/- Walks: the document's answer: an inode decoded. -/
import Derived.Test.YtdeemaafngehoaaInoRef3
import Derived.Test.YtdeemaafngehoaaInoWalks5
import Derived.Test.YtdeemaafngehoaaMem3
import Derived.IntWalk
set_option linter.unusedVariables false
set_option linter.unusedSimpArgs false
set_option maxRecDepth 100000
namespace Go.Proofs.Ytdeemaafngehoaa
open Go.RowKit Go.Joins

theorem rgetn_any (s : ByteArray) (a n : Int) (w : World) (hs : s.size ≤ maxLen) :
    Calls Try.prog 51 #[.string s, .int .i64 a, .int .i64 n] w fun e w' => e = .returned (.int .i64 (getM s a n)) ∧ w = w' := by
  by_cases h : getIOk s a n = true
  · have HC := Lib.hid (fun W => by have := rgetint_any s a n W hs; rw [h] at this; exact this : ∀ W, Calls Try.prog 76 #[.string s, .int .i64 a, .int .i64 n] W fun e w' => e = .returned (.tuple #[.int .i64 (getIV s a n), .bool true]) ∧ W = w')
    rw [getM, if_pos h]
    clear h
    go_enter Try.func51, Try.ntmps51
    go_wp2_with fail
    refine (HC.out _).mono ?_
    rintro e w4 ⟨rfl, rfl⟩
    go_wp2_with fail
    go_ret
    exact ⟨rfl, rfl⟩
  · have HC := Lib.hid (fun W => by have := rgetint_any s a n W hs; rw [show getIOk s a n = false by simpa using h] at this; exact this : ∀ W, Calls Try.prog 76 #[.string s, .int .i64 a, .int .i64 n] W fun e w' => e = .returned (.tuple #[.int .i64 (getIV s a n), .bool false]) ∧ W = w')
    rw [getM, if_neg h]
    clear h
    go_enter Try.func51, Try.ntmps51
    go_wp2_with fail
    refine (HC.out _).mono ?_
    rintro e w4 ⟨rfl, rfl⟩
    go_wp2_with fail
    go_ret
    exact ⟨rfl, rfl⟩

theorem getM_le (s : ByteArray) (a n : Int) : -1 ≤ getM s a n ∧ getM s a n ≤ 9223372036854775807 := by
  unfold getM
  have := getIV_le s a n
  split <;> omega

set_option maxHeartbeats 4000000 in
theorem rdec_mid11 (s : ByteArray) (w : World) (hsm : s.size ≤ maxLen) (Post : Ending → World → Prop) (Q : ByteArray) (e0 : Int)
    (HC1 : Hid (∀ a cap W, NewE W (w.heap.size + 1 + 1) a (inoR s).es → Calls Try.prog 18 #[inoV (inoR s) a cap] W fun e w' => e = .returned (.tuple #[.string Q, .int .i64 e0]) ∧ Below W.heap.size W w'))
    (hres : Hid (e0 = 0 ∧ (Q.toList == s.toList) = true ∧ Post = DecP (inoR s) w ∨ e0 = 0 ∧ (Q.toList == s.toList) = false ∧ Post = DecN w ∨ e0 = 2 ∧ Post = DecN w)) :
    Calls Try.prog 24 #[.string s] w Post := by
  obtain ⟨g, hg⟩ : ∃ g : Int → Int → Int, g = getM s := ⟨_, rfl⟩
  have HG := Lib.hid (fun (a n : Int) W => by have := rgetn_any s a n W hsm; rw [← hg] at this; exact this : ∀ (a n : Int) W, Calls Try.prog 51 #[.string s, .int .i64 a, .int .i64 n] W fun e w' => e = .returned (.int .i64 (g a n)) ∧ W = w')
  have HX : Hid (inoR s = inoOf g 10) := by show _ = _; rw [hg]; rfl
  have hg13 : -1 ≤ g 13 1 ∧ g 13 1 ≤ 9223372036854775807 := by rw [hg]; exact getM_le _ _ _
  have HD : Hid (∀ a cap W, NewE W (w.heap.size + 1 + 1) a (entsOf g (min (g 13 1).toNat 10)) → Calls Try.prog 18 #[iv (g 0 1) (g 1 1 == 1) (g 2 2) (g 4 8) (g 12 1) a (entsOf g (min (g 13 1).toNat 10)).length cap] W fun e w' => e = .returned (.tuple #[.string Q, .int .i64 e0]) ∧ Below W.heap.size W w') := by
    have := HC1.out
    rw [HX.out] at this
    exact this
  obtain ⟨i0, hi, hz0, hz1, hz2⟩ := info_parts info_ent
  have HI := Lib.hid (And.intro hi (And.intro hz0 (And.intro hz1 hz2)))
  clear hi hz0 hz1 hz2
  clear hg HC1
  go_enter Try.func24, Try.ntmps24
  go_wp2_with (go_at_call 51; refine (HG.out _ _ _).mono ?_; rintro e w' ⟨rfl, rfl⟩)
  go_loopw [5] (fun jj wr => ∃ (k : Nat) (a : Option Addr) (cap : Nat), k ≤ min (g 13 1).toNat 10 ∧ jj = .int .i64 k ∧ RowAt wr w.heap.size [.int .i64 0, .bool false, .int .i64 0, .int .i64 0, .int .i64 0, .slice none 0 0] ∧ RowAt wr (w.heap.size + 1) [.int .i64 (g 0 1), .bool (g 1 1 == 1), .int .i64 (g 2 2), .int .i64 (g 4 8), .int .i64 (g 12 1), .slice a k cap] ∧ OwnE wr (w.heap.size + 1 + 1) (.slice a k cap) (entsOf g k) ∧ Below w.heap.size w wr) (fun jj _ => 10 - (intOf jj).toNat)
  case atStart =>
    have r0 := rowAt_alloc w #[.int .i64 0, .bool false, .int .i64 0, .int .i64 0, .int .i64 0, .slice none 0 0] 24
    have r1 := rowAt_alloc (w.alloc (.cells #[.int .i64 0, .bool false, .int .i64 0, .int .i64 0, .int .i64 0, .slice none 0 0] 24)) #[.int .i64 (g 0 1), .bool (g 1 1 == 1), .int .i64 (g 2 2), .int .i64 (g 4 8), .int .i64 (g 12 1), .slice none 0 0] 24
    rw [World.size_alloc] at r1
    refine ⟨0, none, 0, by omega, rfl, r0.alloc _, r1, World.ownsRow_nil _ _ _ _, ?_⟩
    exact ((Below.refl _ _).alloc (Nat.le_refl _) _).alloc (by simp) _
  case round =>
    obtain ⟨k, a, cap, hk, rfl, q0, q1, hown, B1⟩ := hrel
    have hl0 := q0.lt
    have hl1 := q1.lt
    obtain ⟨c0, c1, c2, c3, c4, c5⟩ := six_cells q1
    have f5 := q1.frozen 5 (by simp)
    by_cases hlt : k < min (g 13 1).toNat 10
    · have h1 : (k : Int) < g 13 1 := by omega
      have h2 : (k : Int) < 10 := by omega
      have e1 : IntKind.i64.wrap (14 + 12 * (k : Int)) = 14 + 12 * (k : Int) := IntWalk.i64_in _ (by omega)
      have e2 : IntKind.i64.wrap (18 + 12 * (k : Int)) = 18 + 12 * (k : Int) := IntWalk.i64_in _ (by omega)
      have e3 : IntKind.i64.wrap (22 + 12 * (k : Int)) = 22 + 12 * (k : Int) := IntWalk.i64_in _ (by omega)
      have e4 : IntKind.i64.wrap (12 * (k : Int)) = 12 * (k : Int) := IntWalk.i64_in _ (by omega)
      have HK : Hid (wr.ownsRow (w.heap.size + 1 + 1) 26 3 (.slice a k cap) k (ecells (entsOf g k))) := by
        have := hown
        unfold OwnE at this
        rw [entsOf_length] at this
        exact this
      have HL := Lib.hid (fun j hj => World.ownsRow.lt HK.out j hj)
      clear hown
      go_wp2_with (go_at_call 51; refine (HG.out _ _ _).mono ?_; rintro e w' ⟨rfl, rfl⟩)
      go_region_law (first
        | (refine step_append_own rfl (.tmp 31) (.tmp 48) 22 rfl (w.heap.size + 1 + 1) 26 i0 (.agg #[.int .i64 0, .int .i64 0, .int .i64 0]) 3 24 Try.underlying22 HI.out.1 HI.out.2.1 HI.out.2.2.1 HI.out.2.2.2 rfl (by decide) (.slice a k cap) k (ecells (entsOf g k)) (by simp [Act.eval, Act.put]) (by exact (HK.out.drew.alloc _)) ⟨wr.heap.size, 0, none⟩ 1 1 [.int .i64 (g (14 + 12 * (k : Int)) 4), .int .i64 (g (18 + 12 * (k : Int)) 4), .int .i64 (g (22 + 12 * (k : Int)) 4)] (by simp [Act.eval, Act.put]) rfl (by exact row_news (rowAt_alloc wr.drew _ _)) (by intro u hu; simp at hu; rcases hu with rfl | rfl | rfl <;> rfl) (by unfold maxLen; omega) (by omega) (by simp; omega) ?_; intro v' w5 hown5 hg5; obtain ⟨a5, cap5, rfl⟩ := own_form hown5; have r5 := (q1.drew.alloc _).grown hg5 (fun e => by have := HL.out _ e; omega); have r0 := (q0.drew.alloc _).grown hg5 (fun e => by have := HL.out _ e; omega); have C5 := r5.cell 5 (by simp); have F5 := r5.frozen 5 (by simp); have L5 := r5.lt)
        | (go_simp; go_at_call 51; refine (HG.out _ _ _).mono ?_; rintro e w' ⟨rfl, rfl⟩))
      all_goals
        have B5 := grown_below (B1.drew.alloc B1.size (.cells #[.int .i64 (g (14 + 12 * (k : Int)) 4), .int .i64 (g (18 + 12 * (k : Int)) 4), .int .i64 (g (22 + 12 * (k : Int)) 4)] 26)) hg5 (fun j hj => by have := (HL.out j hj).1; omega) (by simp; have := B1.size; omega)
        have HO5 : Hid (OwnE (w5.setCell ⟨w.heap.size + 1, 5, none⟩ (.slice a5 (k + 1) cap5)) (w.heap.size + 1 + 1) (.slice a5 (k + 1) cap5) (entsOf g (k + 1))) := by
          show World.ownsRow _ _ _ _ _ _ _
          rw [entsOf_snoc, List.length_append, entsOf_length, ecells_append]
          exact own_other hown5 _ _ (by simp)
        clear hown5 hg5
        go_wp2_with fail
        go_roundw
        case rel => exact ⟨k + 1, a5, cap5, by omega, by go_num, r0.other _ _ (by simp), r5.set 5 _, HO5.out, B5.setCell (by simp) _⟩
        case measure => simp [intOf]; omega
    · obtain rfl : k = min (g 13 1).toNat 10 := by omega
      have hnew : NewE wr (w.heap.size + 1 + 1) a (entsOf g (min (g 13 1).toNat 10)) := by
        obtain ⟨a', cap', hv, _, hn⟩ := hown.form
        injection hv with hv1
        rw [hv1]; exact hn
      clear hown hlt
      have HE := HD.out a cap wr hnew
      rw [entsOf_length] at HE
      have hx : inoR s = ⟨g 0 1, g 1 1 == 1, g 2 2, g 4 8, g 12 1, entsOf g (min (g 13 1).toNat 10)⟩ := HX.out
      have hor : (¬ ((min (g 13 1).toNat 10 : Nat) : Int) < g 13 1) ∨ (((min (g 13 1).toNat 10 : Nat) : Int) < g 13 1 ∧ ¬ ((min (g 13 1).toNat 10 : Nat) : Int) < 10) := by omega
      have hle : min (g 13 1).toNat 10 ≤ 10 := by omega
      clear HI HX HD hk
      generalize min (g 13 1).toNat 10 = n at *
      have HEE := Lib.hid HE
      have HX := Lib.hid hx
      have HNW := Lib.hid hnew
      clear HE hx hnew
      rcases hor with h1 | ⟨h1, h2⟩
      all_goals
        go_wp2_with (go_at_call 51; refine (HG.out _ _ _).mono ?_; rintro e w' ⟨rfl, rfl⟩)
        refine HEE.out.mono ?_
        rintro e w6 ⟨rfl, hb6⟩
        clear c0 c1 c2 c3 c4 c5 f5
        have hnew6 := NewE.below HNW.out hb6 (Nat.le_refl _)
        have B6 := below_chain B1 hb6 B1.size
        have r6 := q1.below hb6 q1.lt
        have z6 := q0.below hb6 q0.lt
        obtain ⟨c0, c1, c2, c3, c4, c5⟩ := six_cells r6
        obtain ⟨x0, x1, x2, x3, x4, x5⟩ := six_cells z6
        have y0 := z6.frozen 0 (by simp)
        have y1 := z6.frozen 1 (by simp)
        have y2 := z6.frozen 2 (by simp)
        have y3 := z6.frozen 3 (by simp)
        have y4 := z6.frozen 4 (by simp)
        have y5 := z6.frozen 5 (by simp)
        have hm6 := z6.lt
        have HN6 := Lib.hid hnew6
        clear hnew6 hb6
        rcases hres.out with ⟨rfl, h1, hP⟩ | ⟨rfl, h1, hP⟩ | ⟨rfl, hP⟩
        · have HP := Lib.hid hP
          clear hP
          go_wp2_with fail
          refine bodyPost_ret (v := .tuple #[iv (g 0 1) (g 1 1 == 1) (g 2 2) (g 4 8) (g 12 1) a n cap, .int .i64 0]) ?_ rfl ?_
          · have hfin := (((((z6.set 0 (.int .i64 (g 0 1))).set 1 (.bool (g 1 1 == 1))).set 2 (.int .i64 (g 2 2))).set 3 (.int .i64 (g 4 8))).set 4 (.int .i64 (g 12 1))).set 5 (.slice a n cap)
            obtain ⟨t0, t1, t2, t3, t4, t5⟩ := six_cells (show RowAt _ _ [.int .i64 (g 0 1), .bool (g 1 1 == 1), .int .i64 (g 2 2), .int .i64 (g 4 8), .int .i64 (g 12 1), .slice a n cap] from hfin)
            simp [results, Try.results24, go_sem, t0, t1, t2, t3, t4, t5]; done
          · rw [HP.out]
            refine ⟨a, cap, ?_, ?_, ?_⟩
            · rw [HX.out]
              show _ = Ending.returned (.tuple #[iv (g 0 1) (g 1 1 == 1) (g 2 2) (g 4 8) (g 12 1) a (entsOf g n).length cap, .int .i64 0])
              rw [entsOf_length]
            · rw [HX.out]
              show NewE _ _ _ (entsOf g n)
              refine NewE.less (base := w.heap.size + 1 + 1) ?_ (by omega)
              exact (((((HN6.out.other _ _ (by simp; try omega)).other _ _ (by simp; try omega)).other _ _ (by simp; try omega)).other _ _ (by simp; try omega)).other _ _ (by simp; try omega)).other _ _ (by simp; try omega)
            · go_grown
        all_goals
          have HP := Lib.hid hP
          clear hP
          go_wp2_with fail
          refine bodyPost_ret (v := .tuple #[iv 0 false 0 0 0 none 0 0, .int .i64 80]) ?_ rfl ?_
          · have hfin := (((((z6.set 0 (.int .i64 0)).set 1 (.bool false)).set 2 (.int .i64 0)).set 3 (.int .i64 0)).set 4 (.int .i64 0)).set 5 (.slice none 0 0)
            obtain ⟨t0, t1, t2, t3, t4, t5⟩ := six_cells (show RowAt _ _ [.int .i64 0, .bool false, .int .i64 0, .int .i64 0, .int .i64 0, .slice none 0 0] from hfin)
            simp [results, Try.results24, go_sem, t0, t1, t2, t3, t4, t5]; done
          · rw [HP.out]
            refine ⟨rfl, ?_⟩
            go_grown

theorem rdec_no11 (s : ByteArray) (w : World) (hs : s.size ≤ maxLen) (h : inoDec s = false) :
    Calls Try.prog 24 #[.string s] w (DecN w) := by
  rw [← inoDecR, Bool.and_eq_false_iff] at h
  have hlen : (inoR s).es.length ≤ 10 := by
    show (entsOf _ _).length ≤ 10
    rw [entsOf_length]; omega
  by_cases hk : (inoR s).ok = true
  · have h2 : ((tx (inoR s).bytes).toList == s.toList) = false := by
      rcases h with h | h
      · rw [hk] at h; cases h
      · exact h
    exact rdec_mid11 s w hs _ (tx (inoR s).bytes) 0 (Lib.hid (fun a cap W hE => irenc_yes _ a cap W hE.ents hk)) (Lib.hid (.inr (.inl ⟨rfl, h2, rfl⟩)))
  · exact rdec_mid11 s w hs _ ⟨#[]⟩ 2 (Lib.hid (fun a cap W hE => irenc_no _ a cap W hE.ents (by omega) (by simpa using hk))) (Lib.hid (.inr (.inr ⟨rfl, rfl⟩)))

theorem rdec_yes11 (s : ByteArray) (w : World) (h : inoDec s = true) :
    Calls Try.prog 24 #[.string s] w (DecP (inoP s) w) := by
  obtain ⟨h1, h2⟩ := inoDec_ok h
  rw [← inoR_P h] at h1 h2 ⊢
  exact rdec_mid11 s w (by rw [inoDec_size h]; decide) _ (tx (inoR s).bytes) 0 (Lib.hid (fun a cap W hE => irenc_yes _ a cap W hE.ents h1)) (Lib.hid (.inl ⟨rfl, bytes_beq.2 h2, rfl⟩))

end Go.Proofs.Ytdeemaafngehoaa
