/- For every input the law glissadelaw21.HandlesPlay returns true; at most 200 acts. -/
import Derived.BigQuiet
import Derived.Deep.QuietTactic
import Derived.Deep.RegionHeld3
import Derived.Test.YthnnmhnddpghfaaHanJoin
import Derived.Test.YthnnmhnddpghfaaGotActs
import Derived.Test.YthnnmhnddpghfaaFrame
set_option linter.unusedVariables false
set_option linter.unusedSimpArgs false
set_option maxRecDepth 100000
namespace Go.Proofs.Ythnnmhnddpghfaa
open Go.RowKit Go.Joins

set_option maxHeartbeats 16000000 in
theorem walk_handlesPlay (w : World) (a : Option Addr) (cap : Nat) (l : List Ac) (hV : Val3 w a (l.map Ac.v)) (hk : ∀ z ∈ l, 0 ≤ z.k ∧ z.k ≤ 255) :
    Calls Try.prog 4 #[.slice a l.length cap] w fun e w' => e = .returned (.bool true) ∧ Below w.heap.size w w' := by
  by_cases hc : l.length ≤ 200
  case neg =>
    have h1 : (200 : Int) < (l.length : Int) := by omega
    clear hV hk hc
    go_enter Try.func4, Try.ntmps4
    go_wp2_with fail
    refine (lives21 _).mono ?_
    rintro e w1 ⟨rfl, hb⟩
    go_wp2_with fail
    go_ret
    exact ⟨rfl, hb⟩
  have hl' : (l.length : Int) ≤ 200 := by omega
  have HV := Lib.hid hV
  have HK := Lib.hid hk
  have HC0 := Lib.hid (hnew w)
  clear hV hk
  go_enter Try.func4, Try.ntmps4
  go_wp2_with fail
  refine HC0.out.mono ?_
  rintro e w0 ⟨rfl, hT0, B0⟩
  clear HC0
  obtain ⟨Kt, hKt⟩ : ∃ Kt, Kt = w.heap.size := ⟨_, rfl⟩
  rw [← hKt] at hT0
  rw [show (⟨w.heap.size, 0, none⟩ : Addr) = ⟨Kt, 0, none⟩ from by rw [hKt]]
  have hb1 : Below w0.heap.size w0 (w0.alloc (.cells #[.slice none 0 0] 37)) := (Below.refl _ _).alloc (Nat.le_refl _) _
  have hT1 := hT0.below hb1 (Nat.le_refl _)
  have B1 := below_chain B0 hb1 B0.size
  have hR1 : RO (w0.alloc (.cells #[.slice none 0 0] 37)) w0.heap.size (w0.heap.size + 1) [] := ⟨by omega, .slice none 0 0, rowAt_alloc w0 #[.slice none 0 0] 37, World.ownsRow_nil _ _ _ _⟩
  obtain ⟨R, hR⟩ : ∃ R, R = w0.heap.size := ⟨_, rfl⟩
  have HR : Hid (Kt < R ∧ w.heap.size ≤ Kt) := by
    have h1 := hT0.lt
    exact ⟨by omega, by omega⟩
  rw [← hR] at hR1
  clear hT0 hb1 B0 hKt
  go_wp2_with fail
  rw [← hR]
  generalize w0.alloc (.cells #[.slice none 0 0] 37) = wz at *
  clear hR
  go_loopw [5] (fun jj wr => ∃ (k : Nat) (T : List Sl) (L : List Rf), k ≤ l.length ∧ jj = .int .i64 k ∧ Hid (TabAt wr Kt true T ∧ RO wr R (R + 1) L ∧ Same21 T L ∧ Below w.heap.size w wr)) (fun jj _ => l.length - (intOf jj).toNat)
  case atStart => exact ⟨0, zeroT, [], by omega, rfl, hT1, hR1, same_start, B1⟩
  case round =>
    obtain ⟨k, T, L, hk, rfl, HG⟩ := hrel
    clear hT1 hR1 B1
    by_cases hlt : k < l.length
    · obtain ⟨x, hx⟩ : ∃ x, l[k]? = some x := ⟨_, List.getElem?_eq_getElem hlt⟩
      obtain ⟨P, o, rfl, hP, c0, c1, c2⟩ := act_cells (HV.out.below HG.out.2.2.2 (Nat.le_refl _)) hx
      obtain ⟨hk0, hk1⟩ := HK.out x (List.mem_of_getElem? hx)
      have h1 : (k : Int) < (l.length : Int) := by omega
      clear hx
      obtain ⟨vR, hvR⟩ : ∃ vR, wr.cell? ⟨R, 0, none⟩ = some vR := by
        obtain ⟨_, v, q1, _⟩ := HG.out.2.1
        exact ⟨v, q1.cell 0 (by simp)⟩
      have hX : Hid (Kt < R ∧ Kt ≠ wr.heap.size ∧ R ≠ wr.heap.size ∧ w.heap.size ≤ Kt ∧ vR.ownBlock ≠ some wr.heap.size) := by
        have q1 := HR.out
        have q2 := HG.out.1.lt
        have q3 := HG.out.2.1.low
        refine ⟨q1.1, by omega, by omega, q1.2, fun e => ?_⟩
        obtain ⟨_, v, q4, q5⟩ := HG.out.2.1
        have := (q4.cell 0 (by simp)).symm.trans hvR
        simp at this
        subst this
        have := (q5.lt _ e).2
        omega
      have hG0 : PlayG w (wr.alloc (.cells #[.int .u8 x.k, .int .i64 x.fd, .int .i64 x.n] 29)) Kt R wr.heap.size T L x vR := by
        have hb : Below wr.heap.size wr (wr.alloc (.cells #[.int .u8 x.k, .int .i64 x.fd, .int .i64 x.n] 29)) := (Below.refl _ _).alloc (Nat.le_refl _) _
        exact ⟨rowAt_alloc wr #[.int .u8 x.k, .int .i64 x.fd, .int .i64 x.n] 29, HG.out.1.below hb (Nat.le_refl _), HG.out.2.1.below hb, HG.out.2.2.1, below_chain HG.out.2.2.2 hb HG.out.2.2.2.size, by rw [hb.cell (p := ⟨R, 0, none⟩) HG.out.2.1.low.2]; exact hvR⟩
      have HG0 := Lib.hid hG0
      clear hG0 hvR HG
      obtain ⟨X, hXe⟩ : ∃ X, X = wr.heap.size := ⟨_, rfl⟩
      rw [← hXe] at hX HG0
      have h3 : x.k % 3 = 0 ∨ x.k % 3 = 1 ∨ x.k % 3 = 2 := by omega
      rcases h3 with c | c | c
      · go_wp2_with fail
        rw [← hXe]
        refine (hopen Kt T x.n _ HG0.out.tab).mono ?_
        rintro e w1 ⟨rfl, hT1, hg1⟩
        obtain ⟨p1, p2, p3, p4, p5⟩ := HG0.out.prog hg1 hT1 hX.out.1 hX.out.2.1 hX.out.2.2.2.1
        have HJ := Lib.hid (jopen x.n p3 HG0.out.same (by have := p3.low.2; omega))
        have HP1 := Lib.hid (And.intro p1 (And.intro p2 (And.intro p4 p5)))
        have d1 : w1.cell? ⟨X, 1, none⟩ = some (.int .i64 x.fd) := p1.cell 1 (by simp [acells])
        have d2 : w1.cell? ⟨X, 2, none⟩ = some (.int .i64 x.n) := p1.cell 2 (by simp [acells])
        have hXlt := p1.lt
        clear hT1 hg1 p1 p2 p3 p4 p5 HG0
        generalize tOpen T x.n = to_ at *
        obtain ⟨T2, d, ee⟩ := to_
        clear hXe
        go_wp2_with fail
        refine HJ.out.mono ?_
        rintro e w2 ⟨rfl, ⟨L2, q1, q2⟩, q3, q4⟩
        have HG2 : Hid (∃ aL cL, PlayG w w2 Kt R X T2 L2 x (.slice aL L2.length cL)) := by
          obtain ⟨h1, h2, h3, h4, h5⟩ := hX.out
          obtain ⟨p1, p2, p4, p5⟩ := HP1.out
          have q1' := q1
          obtain ⟨_, v, q6, q7⟩ := q1'
          obtain ⟨aL, cL, rfl⟩ := own_form q7
          exact ⟨aL, cL, ⟨q4.row p1 (fun e => h3 e.symm) (fun v hv => by rw [p5] at hv; injection hv with hv; rw [← hv]; exact h5), q3.tab p2 (by omega) (by omega), q1, q2, p4.trans (q3.below (by omega) (by omega)), q6.cell 0 (by simp)⟩⟩
        clear q1 q2 q3 q4 HJ HP1 d1 d2 hXlt
        obtain ⟨aL, cL, HG3⟩ := HG2
        have HG2 := Lib.hid HG3
        clear HG3
        have d1 := HG2.out.cells.1
        have d2 := HG2.out.cells.2.1
        have hXlt := HG2.out.act.lt
        go_wp2_with fail
        refine (hget Kt T2 x.fd _ HG2.out.tab).mono ?_
        rintro e w3 ⟨rfl, hb3⟩
        have HG3 := Lib.hid (HG2.out.below hb3)
        have HJ3 := Lib.hid (jget x.fd HG3.out.own HG3.out.same)
        generalize tGet T2 x.fd = tg at *
        obtain ⟨g1, g2, g3⟩ := tg
        clear hb3 d1 d2 hXlt HG2
        have d1 := HG3.out.cells.1
        have d2 := HG3.out.cells.2.1
        have hXlt := HG3.out.act.lt
        go_wp2_with fail
        refine HJ3.out.mono ?_
        rintro e w4 ⟨rfl, hb4⟩
        have HG4 := Lib.hid (HG3.out.below hb4)
        clear hb4 d1 d2 hXlt HG3 HJ3
        have d1 := HG4.out.cells.1
        have d2 := HG4.out.cells.2.1
        have dR := HG4.out.at_
        have hXlt := HG4.out.act.lt
        have HFU : Hid (∀ W, TabAt W Kt true T2 → Calls Try.prog 21 #[.pointer (some ⟨Kt, 0, none⟩)] W fun e W' => e = .returned (.bool ((L2.length : Int) == 16)) ∧ Below W.heap.size W W') := by
          intro W hW
          have := hfull Kt T2 W hW
          rw [sm_full HG4.out.same] at this
          exact this
        go_wp2_with fail
        go_region_held3 (fun W => W.cell? ⟨X, 1, none⟩ = some (.int .i64 x.fd) ∧ W.cell? ⟨X, 2, none⟩ = some (.int .i64 x.n) ∧ W.cell? ⟨R, 0, none⟩ = some (.slice aL L2.length cL) ∧ PlayG w W Kt R X T2 L2 x (.slice aL L2.length cL)) (first | (exact play_keep HG4.out.cells ((Below.refl _ _).drew)) | (exact play_keep (by assumption) (by assumption)) | assumption)
          (first | (go_at_call 12; refine (hhas Kt T2 x.n _ (play_g (by assumption)).tab).mono ?_; rintro e w5 ⟨rfl, hb5⟩) | (go_at_call 20; refine (jhas x.n (play_g (by assumption)).own (play_g (by assumption)).same).mono ?_; rintro e w6 ⟨rfl, rfl⟩) | (go_at_call 21; refine (HFU.out _ (play_g (by assumption)).tab).mono ?_; rintro e w7 ⟨rfl, hb7⟩) | (go_at_call 23; refine (hnodes Kt T2 _ (play_g (by assumption)).tab).mono ?_; rintro e w8 ⟨aN, cN, rfl, hnN, hb8⟩) | (go_at_call 24; refine (jnodes (play_g (by assumption)).own (play_g (by assumption)).same).mono ?_; rintro e w8 ⟨aM, cM, rfl, hnM, hb9⟩) | (go_at_call 22; refine (same_self _ _ _ _ (nodesOf T2) _ (nodes_len T2) (NewS.vals (NewS.below (by assumption) (by assumption) (Nat.le_refl _))) (NewS.vals (by assumption))).mono ?_; rintro e w9 ⟨rfl, hb10⟩) | (go_at_call 22; refine (same_self _ _ _ _ (nodesOf T2) _ (nodes_len T2) (NewS.vals (by assumption)) (NewS.vals (NewS.below (by assumption) (by assumption) (Nat.le_refl _)))).mono ?_; rintro e w9 ⟨rfl, hb10⟩))
        all_goals
          have hGE : PlayG w w9 Kt R X T2 L2 x (.slice aL L2.length cL) := play_g (by assumption)
          go_wp2_with fail
          go_roundw
          case rel => exact ⟨k + 1, T2, L2, by omega, by go_num, hGE.tab, hGE.own, hGE.same, hGE.low⟩
          case measure => simp [intOf]; omega
      · go_wp2_with fail
        rw [← hXe]
        refine (hclose Kt T x.fd _ HG0.out.tab).mono ?_
        rintro e w1 ⟨rfl, hT1, hg1⟩
        obtain ⟨p1, p2, p3, p4, p5⟩ := HG0.out.prog hg1 hT1 hX.out.1 hX.out.2.1 hX.out.2.2.2.1
        have HJ := Lib.hid (jclose x.fd p3 HG0.out.same (by have := p3.low.2; omega))
        have HP1 := Lib.hid (And.intro p1 (And.intro p2 (And.intro p4 p5)))
        have d1 : w1.cell? ⟨X, 1, none⟩ = some (.int .i64 x.fd) := p1.cell 1 (by simp [acells])
        have d2 : w1.cell? ⟨X, 2, none⟩ = some (.int .i64 x.n) := p1.cell 2 (by simp [acells])
        have hXlt := p1.lt
        clear hT1 hg1 p1 p2 p3 p4 p5 HG0
        generalize tClose T x.fd = to_ at *
        obtain ⟨T2, d, bb, ee⟩ := to_
        clear hXe
        go_wp2_with fail
        refine HJ.out.mono ?_
        rintro e w2 ⟨rfl, ⟨L2, q1, q2⟩, q3, q4⟩
        have HG2 : Hid (∃ aL cL, PlayG w w2 Kt R X T2 L2 x (.slice aL L2.length cL)) := by
          obtain ⟨h1, h2, h3, h4, h5⟩ := hX.out
          obtain ⟨p1, p2, p4, p5⟩ := HP1.out
          have q1' := q1
          obtain ⟨_, v, q6, q7⟩ := q1'
          obtain ⟨aL, cL, rfl⟩ := own_form q7
          exact ⟨aL, cL, ⟨q4.row p1 (fun e => h3 e.symm) (fun v hv => by rw [p5] at hv; injection hv with hv; rw [← hv]; exact h5), q3.tab p2 (by omega) (by omega), q1, q2, p4.trans (q3.below (by omega) (by omega)), q6.cell 0 (by simp)⟩⟩
        clear q1 q2 q3 q4 HJ HP1 d1 d2 hXlt
        obtain ⟨aL, cL, HG3⟩ := HG2
        have HG2 := Lib.hid HG3
        clear HG3
        have d1 := HG2.out.cells.1
        have d2 := HG2.out.cells.2.1
        have hXlt := HG2.out.act.lt
        go_wp2_with fail
        refine (hget Kt T2 x.fd _ HG2.out.tab).mono ?_
        rintro e w3 ⟨rfl, hb3⟩
        have HG3 := Lib.hid (HG2.out.below hb3)
        have HJ3 := Lib.hid (jget x.fd HG3.out.own HG3.out.same)
        generalize tGet T2 x.fd = tg at *
        obtain ⟨g1, g2, g3⟩ := tg
        clear hb3 d1 d2 hXlt HG2
        have d1 := HG3.out.cells.1
        have d2 := HG3.out.cells.2.1
        have hXlt := HG3.out.act.lt
        go_wp2_with fail
        refine HJ3.out.mono ?_
        rintro e w4 ⟨rfl, hb4⟩
        have HG4 := Lib.hid (HG3.out.below hb4)
        clear hb4 d1 d2 hXlt HG3 HJ3
        have d1 := HG4.out.cells.1
        have d2 := HG4.out.cells.2.1
        have dR := HG4.out.at_
        have hXlt := HG4.out.act.lt
        have HFU : Hid (∀ W, TabAt W Kt true T2 → Calls Try.prog 21 #[.pointer (some ⟨Kt, 0, none⟩)] W fun e W' => e = .returned (.bool ((L2.length : Int) == 16)) ∧ Below W.heap.size W W') := by
          intro W hW
          have := hfull Kt T2 W hW
          rw [sm_full HG4.out.same] at this
          exact this
        go_wp2_with fail
        go_region_held3 (fun W => W.cell? ⟨X, 1, none⟩ = some (.int .i64 x.fd) ∧ W.cell? ⟨X, 2, none⟩ = some (.int .i64 x.n) ∧ W.cell? ⟨R, 0, none⟩ = some (.slice aL L2.length cL) ∧ PlayG w W Kt R X T2 L2 x (.slice aL L2.length cL)) (first | (exact play_keep HG4.out.cells ((Below.refl _ _).drew)) | (exact play_keep (by assumption) (by assumption)) | assumption)
          (first | (go_at_call 12; refine (hhas Kt T2 x.n _ (play_g (by assumption)).tab).mono ?_; rintro e w5 ⟨rfl, hb5⟩) | (go_at_call 20; refine (jhas x.n (play_g (by assumption)).own (play_g (by assumption)).same).mono ?_; rintro e w6 ⟨rfl, rfl⟩) | (go_at_call 21; refine (HFU.out _ (play_g (by assumption)).tab).mono ?_; rintro e w7 ⟨rfl, hb7⟩) | (go_at_call 23; refine (hnodes Kt T2 _ (play_g (by assumption)).tab).mono ?_; rintro e w8 ⟨aN, cN, rfl, hnN, hb8⟩) | (go_at_call 24; refine (jnodes (play_g (by assumption)).own (play_g (by assumption)).same).mono ?_; rintro e w8 ⟨aM, cM, rfl, hnM, hb9⟩) | (go_at_call 22; refine (same_self _ _ _ _ (nodesOf T2) _ (nodes_len T2) (NewS.vals (NewS.below (by assumption) (by assumption) (Nat.le_refl _))) (NewS.vals (by assumption))).mono ?_; rintro e w9 ⟨rfl, hb10⟩) | (go_at_call 22; refine (same_self _ _ _ _ (nodesOf T2) _ (nodes_len T2) (NewS.vals (by assumption)) (NewS.vals (NewS.below (by assumption) (by assumption) (Nat.le_refl _)))).mono ?_; rintro e w9 ⟨rfl, hb10⟩))
        all_goals
          have hGE : PlayG w w9 Kt R X T2 L2 x (.slice aL L2.length cL) := play_g (by assumption)
          go_wp2_with fail
          go_roundw
          case rel => exact ⟨k + 1, T2, L2, by omega, by go_num, hGE.tab, hGE.own, hGE.same, hGE.low⟩
          case measure => simp [intOf]; omega
      · go_wp2_with fail
        rw [← hXe]
        have hSG : SeekG w (wr.alloc (.cells #[.int .u8 x.k, .int .i64 x.fd, .int .i64 x.n] 29)) Kt R X T x vR := ⟨HG0.out.act, .inl HG0.out.tab, ⟨L, HG0.out.own, .inl HG0.out.same⟩, HG0.out.low, HG0.out.at_⟩
        have HSG := Lib.hid hSG.drew
        have hXlt := hSG.act.lt
        clear hSG HG0 hXe
        go_region_held3 (fun W => W.cell? ⟨X, 1, none⟩ = some (.int .i64 x.fd) ∧ W.cell? ⟨X, 2, none⟩ = some (.int .i64 x.n) ∧ SeekG w W Kt R X T x vR) (first | (exact HSG.out.cells) | (exact seek_kt (by assumption) (by assumption) (by assumption) hX.out) | (exact seek_kr (by assumption) (by assumption) (by assumption) (by assumption) (by assumption) hX.out) | assumption)
          (first | (go_at_call 17; refine (seek_t (seek_g (by assumption))).mono ?_; rintro e w1 ⟨rfl, hT1, hg1⟩) | (go_at_call 18; refine (seek_r (seek_g (by assumption))).mono ?_; rintro e w2 ⟨rfl, hL2, hk2, hf2, hr2⟩))
        all_goals
          first | (have HE := seek_end1 hT1 hk2 hL2 (by assumption) hX.out) | (have HE := seek_end2 hL2 hg1 hT1 (by assumption) hX.out)
          clear hT1 hg1 hL2 hk2 hf2 hr2 HSG hXlt
          generalize tSeek T x.fd x.n = to_ at *
          obtain ⟨T2, ee⟩ := to_
          obtain ⟨p1, p2, ⟨L2, q1, q2⟩, p4⟩ := HE
          have q1' := q1
          obtain ⟨_, v, q6, q7⟩ := q1'
          obtain ⟨aL, cL, rfl⟩ := own_form q7
          have hcR := q6.cell 0 (by simp)
          have HG2 := Lib.hid (PlayG.mk (vR := .slice aL L2.length cL) p1 p2 q1 q2 p4 hcR)
          clear p1 p2 q1 q2 p4 q6 q7 hcR
          have d1 := HG2.out.cells.1
          have d2 := HG2.out.cells.2.1
          have hXlt := HG2.out.act.lt
          go_wp2_with fail
          refine (hget Kt T2 x.fd _ HG2.out.tab).mono ?_
          rintro e w3 ⟨rfl, hb3⟩
          have HG3 := Lib.hid (HG2.out.below hb3)
          have HJ3 := Lib.hid (jget x.fd HG3.out.own HG3.out.same)
          generalize tGet T2 x.fd = tg at *
          obtain ⟨g1, g2, g3⟩ := tg
          clear hb3 d1 d2 hXlt HG2
          have d1 := HG3.out.cells.1
          have d2 := HG3.out.cells.2.1
          have hXlt := HG3.out.act.lt
          go_wp2_with fail
          refine HJ3.out.mono ?_
          rintro e w4 ⟨rfl, hb4⟩
          have HG4 := Lib.hid (HG3.out.below hb4)
          clear hb4 d1 d2 hXlt HG3 HJ3
          have d1 := HG4.out.cells.1
          have d2 := HG4.out.cells.2.1
          have dR := HG4.out.at_
          have hXlt := HG4.out.act.lt
          have HFU : Hid (∀ W, TabAt W Kt true T2 → Calls Try.prog 21 #[.pointer (some ⟨Kt, 0, none⟩)] W fun e W' => e = .returned (.bool ((L2.length : Int) == 16)) ∧ Below W.heap.size W W') := by
            intro W hW
            have := hfull Kt T2 W hW
            rw [sm_full HG4.out.same] at this
            exact this
          go_wp2_with fail
          go_region_held3 (fun W => W.cell? ⟨X, 1, none⟩ = some (.int .i64 x.fd) ∧ W.cell? ⟨X, 2, none⟩ = some (.int .i64 x.n) ∧ W.cell? ⟨R, 0, none⟩ = some (.slice aL L2.length cL) ∧ PlayG w W Kt R X T2 L2 x (.slice aL L2.length cL)) (first | (exact play_keep HG4.out.cells ((Below.refl _ _).drew)) | (exact play_keep (by assumption) (by assumption)) | assumption)
            (first | (go_at_call 12; refine (hhas Kt T2 x.n _ (play_g (by assumption)).tab).mono ?_; rintro e w5 ⟨rfl, hb5⟩) | (go_at_call 20; refine (jhas x.n (play_g (by assumption)).own (play_g (by assumption)).same).mono ?_; rintro e w6 ⟨rfl, rfl⟩) | (go_at_call 21; refine (HFU.out _ (play_g (by assumption)).tab).mono ?_; rintro e w7 ⟨rfl, hb7⟩) | (go_at_call 23; refine (hnodes Kt T2 _ (play_g (by assumption)).tab).mono ?_; rintro e w8 ⟨aN, cN, rfl, hnN, hb8⟩) | (go_at_call 24; refine (jnodes (play_g (by assumption)).own (play_g (by assumption)).same).mono ?_; rintro e w8 ⟨aM, cM, rfl, hnM, hb9⟩) | (go_at_call 22; refine (same_self _ _ _ _ (nodesOf T2) _ (nodes_len T2) (NewS.vals (NewS.below (by assumption) (by assumption) (Nat.le_refl _))) (NewS.vals (by assumption))).mono ?_; rintro e w9 ⟨rfl, hb10⟩) | (go_at_call 22; refine (same_self _ _ _ _ (nodesOf T2) _ (nodes_len T2) (NewS.vals (by assumption)) (NewS.vals (NewS.below (by assumption) (by assumption) (Nat.le_refl _)))).mono ?_; rintro e w9 ⟨rfl, hb10⟩))
          all_goals
            have hGE : PlayG w w9 Kt R X T2 L2 x (.slice aL L2.length cL) := play_g (by assumption)
            go_wp2_with fail
            go_roundw
            case rel => exact ⟨k + 1, T2, L2, by omega, by go_num, hGE.tab, hGE.own, hGE.same, hGE.low⟩
            case measure => simp [intOf]; omega
    · obtain rfl : k = l.length := by omega
      have B := HG.out.2.2.2
      have hnl : ¬ ((l.length : Int) < (l.length : Int)) := by omega
      go_wp2_with fail
      refine (lives21 _).mono ?_
      rintro e w9 ⟨rfl, hb9⟩
      have B9 := below_chain B hb9 B.size
      go_wp2_with fail
      go_ret
      exact ⟨rfl, B9⟩

/-! ### the frame (printed by mklaw.py) -/

set_option maxRecDepth 100000 in
theorem lifted_handlesPlay (os : Os) (started : os.Started) (H : Type) (enc : TypeId × Value → H) :
    ReturnsInHanded {} Try.checked os 4 .any (Rows.handlesPlaySpec.pre6 enc Try.prog Try.f4 Rows.handlesPlayRow.domain false) (Rows.handlesPlaySpec.post enc Try.prog Try.f4 false true false false) := by
  refine law_step (C := Try.checked) (tb := 4) (by kernel_rfl) (by kernel_rfl) started (by kernel_rfl) Try.func4 rfl Try.underlying4 rfl ?_ ?_
    (ChangeSpec.witness6 (enc := enc) (C := Try.checked) false ⟨#[], #[.slice none 0 0], []⟩ 8 (by kernel_rfl) (by kernel_rfl) (by kernel_rfl) (by kernel_rfl)) ?_
  · intro ds hl
    match ds, hl with
    | [d0], _ => rfl
  · intro t ht
    rw [show Try.f4.params.toList = [22] from by rw [Try.params4]] at ht
    simp only [List.mem_cons, List.not_mem_nil, or_false] at ht
    rcases ht with rfl
    · exact ⟨by kernel_rfl, of_decide_eq_true (by kernel_rfl)⟩
  · intro W args hG
    rw [show Try.f4.params.toList = [22] from by rw [Try.params4]] at hG
    obtain ⟨v0, rfl, g0⟩ := gotAll_args1 hG
    obtain ⟨a0, cap0, l0, rfl, hV0, hk0⟩ := got_acts g0
    exact walk_handlesPlay W a0 cap0 l0 hV0 hk0

theorem handlesPlay_over : Rows.handlesPlayRow.holds Try.pinned (OpenSpec.ofChange Rows.handlesPlaySpec) :=
  OpenClaim.holds_of_wide 4 Try.f4 rfl rfl rfl rfl rfl rfl rfl ⟨rfl, rfl, rfl, rfl, rfl⟩ rfl rfl rfl rfl rfl (by kernel_rfl) Try.func4 (by kernel_rfl)
    (of_decide_eq_true (by kernel_rfl)) (by unfold Func.isWrapper; first | (rw [if_pos (by decide +kernel)]; kernel_rfl) | (rw [if_neg (by decide +kernel)]; exact ⟨rfl, rfl⟩))
    (fun os started H enc _ => lifted_handlesPlay os started H enc)

theorem handlesPlay_holds : Rows.HandlesPlaySaid := handlesPlay_over
#print axioms handlesPlay_holds

end Go.Proofs.Ythnnmhnddpghfaa
