/- A part of a proof. -/
import Derived.Test.YtppdihpobokfnaaGreatDoorGC
import Derived.Test.YtppdihpobokfnaaGreatDoorGW
set_option linter.unusedVariables false
namespace Go.Proofs.YtppdihpobokfnaaGreatDoor
open Go.RowKit Go.Joins
theorem add_plain (g o j : Nat) : (⟨g, o, none⟩ : Addr).add j = ⟨g, o + j, none⟩ := by unfold Addr.add; split <;> simp_all
theorem str_nums (l : Bs) : strOfNums (l.map fun b => (b.toNat : Int)) = tx l := by
 unfold strOfNums tx
 rw [List.map_map]
 congr 2
 apply List.ext_getElem <;> simp
theorem own_read {W : World} {a : Option Addr} {n cap : Nat} {d : Bs} (h : OwnB W 5 (.slice a n cap) n (bcells d)) {fr hi : Nat} (h1 : fr ≤ hi) (h2 : hi ≤ n) :
  ∃ u, (Instr.slice 78 (.slice a n cap) (some (.int .i64 (fr : Int))) (some (.int .i64 (hi : Int))) none).run Tryz.prog W = .ok u W ∧ (convert 78 9 u).run Tryz.prog W = .ok (.string (tx ((d.drop fr).take (hi - fr)))) W := by
 have hdn : d.length = n := by have := h.1; rw [bcells_length] at this; exact this
 have hnc : n ≤ cap := by
  rcases h.2 with ⟨hv, _⟩ | ⟨g, cap', cur, hv, _, hc, _⟩ <;> cases hv
  · omega
  · exact hc
 refine ⟨sliced a fr hi cap 1, ?_, ?_⟩
 · obtain ⟨i0, hi0, hz0, hz1, hz2⟩ := info_parts info_byte
   have hu := Tryz.underlying78
   have he : Tryz.prog.elem 78 = 5 := by simp [Program.elem, hu]
   rw [run_slice_lh W 78 a n cap (by rw [he]; exact hu) .i64 .i64 _ _ (by omega) (by omega) (by omega), he, run_sizeOf W hi0]
   simp only [Result.andThen, Int.toNat_natCast, Program.cellsOf, hi0]
   simp only [Option.map_some, Option.getD_some, hz1]
 · rcases h.2 with ⟨hv, h0⟩ | ⟨g, cap', cur, hv, hh, _, hm, hcs, ht⟩
   · cases hv
     obtain rfl : fr = 0 := by omega
     obtain rfl : hi = 0 := by omega
     exact run_convert_bytes_nil W 78 5 Tryz.underlying78 Tryz.underlying5 _ _ 9 Tryz.underlying9
   · cases hv
     obtain ⟨o, ho, hs⟩ : ∃ o, (o = fr ∨ hi = fr) ∧ sliced (some ⟨g, 0, none⟩) fr hi cap 1 = .slice (some ⟨g, o, none⟩) (hi - fr) (cap - fr) := by
      unfold sliced
      by_cases hcf : cap = fr
      · exact ⟨0, .inr (by omega), by rw [if_pos hcf]⟩
      · exact ⟨fr, .inl rfl, by rw [if_neg hcf]; simp [add_plain]⟩
     rw [hs, ← str_nums]
     refine run_convert_bytes_arg W 78 5 Tryz.underlying78 Tryz.underlying5 g o (hi - fr) (cap - fr) (((d.drop fr).take (hi - fr)).map fun b => (b.toNat : Int)) (by rw [List.length_map, List.length_take, List.length_drop]; omega) (fun i hi2 => ?_) 9 Tryz.underlying9
     obtain rfl : o = fr := ho.resolve_right (by omega)
     have hc : cur[o + i]? = some (.int .u8 ((d[o + i]'(by omega)).toNat : Int)) := by
      have h9 : (cur.toList.take n)[o + i]? = (bcells d)[o + i]? := by rw [ht]
      rw [List.getElem?_take_of_lt (by omega), Array.getElem?_toList] at h9
      rw [h9]
      simp [bcells, List.getElem?_eq_getElem (show o + i < d.length from by omega)]
     rw [World.cell?]
     simp [hh, hc, List.getElem?_eq_getElem (show o + i < d.length from by omega), List.getElem?_take_of_lt (show i < hi - o from by omega)]
end Go.Proofs.YtppdihpobokfnaaGreatDoor
set_option linter.unusedVariables false
set_option linter.unusedSimpArgs false
set_option maxRecDepth 100000
namespace Go.Proofs.YtppdihpobokfnaaGreatDoor
open Go.RowKit Go.Joins
theorem read_cut (d : Bs) (A n : Nat) : (d.drop (min A d.length)).take (min (min A d.length + n) d.length - min A d.length) = (d.drop A).take n := by
 by_cases h : A ≤ d.length
 · rw [Nat.min_eq_left h]
   by_cases h2 : A + n ≤ d.length
   · rw [Nat.min_eq_left h2]; congr 1; omega
   · rw [Nat.min_eq_right (by omega), List.take_of_length_le (by rw [List.length_drop]; omega), List.take_of_length_le (by rw [List.length_drop]; omega)]
 · rw [Nat.min_eq_right (by omega : d.length ≤ A), List.drop_of_length_le (Nat.le_refl _), List.drop_of_length_le (by omega : d.length ≤ A)]; simp
set_option maxHeartbeats 4000000 in
theorem mread (R : Rp) (m : Md) (c : Cl) (w : World) (h : MdAt w R m) (hG : Good m) :
  Calls Tryz.prog 39 #[.pointer (some ⟨R.mb, 0, none⟩), .agg #[.int .i64 c.k, .string c.p, .string c.o, .int .i64 c.fd, .int .i64 c.n, .string c.d, .bool c.on]] w (OpR w R (readP m c)) := by
 have HG := Lh hG
 have F0 := Fr.start h c 36 33
 go_enter Tryz.func39, Tryz.ntmps39
 go_upto_region 1 with fail
 generalize (w.alloc (.cells #[.int .i64 c.k, .string c.p, .string c.o, .int .i64 c.fd, .int .i64 c.n, .string c.d, .bool c.on] 36)).alloc (.cells #[.int .i64 0, .int .i64 0, .string ⟨#[]⟩, .slice none 0 0, .int .i64 0, .int .i64 0, .int .i64 0, .bool false, .slice none 0 0, .bool false] 33) = W1 at *
 have F1 := Lh F0
 clear F0
 obtain ⟨a0, a1, a2, a3, a4, a5, a6⟩ := row7_cells F1.out.call
 obtain ⟨m0, m1, m2, m3, m4⟩ := F1.out.md.cells
 go_region_held3 (fun W => W.cell? ⟨R.mb, 4, none⟩ = some (.pointer (some ⟨R.tb, 0, none⟩)) ∧ W.cell? ⟨w.heap.size, 3, none⟩ = some (.int .i64 c.fd)) (first | (exact F1.out.drew.cellsT) | (exact F2.out.cellsT) | assumption)
  (first | (go_at_call 63; refine (hget_any R.tb m.tab c.fd _ F1.out.drew.md.tab).mono ?_; rintro e W2 ⟨rfl, hb⟩; have F2 := Lh (F1.out.drew.below hb); clear hb))
 clear F1 a0 a1 a2 a3 a4 a5 a6 m0 m1 m2 m3 m4
 cases hs : slotOf m.tab c.fd with
 | none =>
  have HR := Lh (show readP m c = (failA 220, m) from by rw [readP, hs])
  have hg : tGet m.tab c.fd = (0, 0, 220) := by rw [tGet, hs]
  simp only [hg]
  clear hs hg
  go_wp2_with fail
  refine (mfailed _ _).mono ?_
  rintro e W3 ⟨rfl, hb⟩
  have F3 := Lh (F2.out.below hb)
  clear hb F2
  obtain ⟨_, _, _, _, _, _, _, _, _, _, _, _, _, _, _, _, _, _, _, _⟩ := row10_all F3.out.ans
  unfold failV anV Stt.zero
  go_wp2_with fail
  refine fin10 Tryz.results39 rfl rfl F3.out.ans ?_
  · unfold OpR
    rw [HR.out]
    refine ⟨rfl, R, ?_, rfl⟩
    repeat (refine Mid.other ?_ F3.out.nz (by omega) _ _)
    exact F3.out.mid
 | some s =>
  obtain ⟨hA0, hA1, k, hk, d, hd⟩ := HG.out.tab _ _ hs
  have HS := Lh hs
  have HRS := Lh (show readP m c = if c.n < 0 ∨ 1024 < c.n then (failA 216, m) else ({ An.zero with d := (d.data.drop s.a.toNat).take c.n.toNat }, { m with tab := (tSeek m.tab c.fd (s.a + ((d.data.drop s.a.toNat).take c.n.toNat).length)).1 }) from by rw [readP, hs]; simp only [hk, Int.toNat_natCast, Md.get_look hd])
  have hg : tGet m.tab c.fd = ((k : Int), s.a, 0) := by rw [tGet, hs]; simp only [hk]
  simp only [hg]
  have HK := Lh hd
  have HDL := Lh (HG.out.data k d hd)
  clear hs hg hd
  obtain ⟨a0, a1, a2, a3, a4, a5, a6⟩ := row7_cells F2.out.call
  by_cases hn : 0 ≤ c.n ∧ c.n ≤ 1024
  · obtain ⟨hn0, hn1⟩ := hn
    have hl := F2.out.md.look HK.out (by have := HG.out.small HK.out; omega)
    obtain ⟨m0, m1, m2, m3, m4⟩ := F2.out.md.cells
    have hnd := F2.out.md.nodes k d HK.out
    obtain ⟨e0, e1, e2, e3, e4, e5⟩ := hnd.cells
    obtain ⟨a, cap, hdv⟩ := ownB_form hnd.bytes
    have hown := hnd.bytes
    rw [hdv] at e3 hown
    obtain ⟨L, hL⟩ : ∃ L, L = d.data.length := ⟨_, rfl⟩
    obtain ⟨fr, hfr⟩ : ∃ fr, fr = min s.a.toNat d.data.length := ⟨_, rfl⟩
    obtain ⟨hi, hhi⟩ : ∃ hi, hi = min (fr + c.n.toNat) d.data.length := ⟨_, rfl⟩
    obtain ⟨u, hsl, hcv⟩ := own_read hown (fr := fr) (hi := hi) (by omega) (by omega)
    obtain ⟨sx, hsx⟩ : ∃ sx, sx = tx ((d.data.drop s.a.toNat).take c.n.toNat) := ⟨_, rfl⟩
    rw [show (d.data.drop fr).take (hi - fr) = (d.data.drop s.a.toNat).take c.n.toNat from by rw [hhi, hfr]; exact read_cut _ _ _, ← hsx] at hcv
    rw [← hL] at e3 hsl
    have hLZ := HDL.out
    rw [← hL] at hLZ hfr hhi
    have hm1 : min s.a (L : Int) = (fr : Int) := by omega
    have hw : IntKind.i64.wrap ((fr : Int) + c.n) = (fr : Int) + c.n := IntWalk.i64_in _ (by omega)
    have hm2 : min ((fr : Int) + c.n) (L : Int) = (hi : Int) := by omega
    have hsz : sx.size ≤ 1024 := by rw [hsx, tx_size, List.length_take]; omega
    have HSX := Lh hsx
    have HWS := Lh (show IntKind.i64.wrap (s.a + (sx.size : Int)) = s.a + (sx.size : Int) from IntWalk.i64_in _ (by omega))
    clear hsx hown hnd hdv hfr hhi hLZ hL hsz
    go_upto_region 9 with fail
    clear e0 e1 e2 e3 e4 e5 hl hsl hcv hm1 hm2 hw
    obtain ⟨T9, z9, hq9⟩ : ∃ T' z, tSeek m.tab c.fd (s.a + (sx.size : Int)) = (T', z) := ⟨_, _, rfl⟩
    have HSK := Lh (fun W (hW : TabAt W R.tb true m.tab) z (hz : z = s.a + (sx.size : Int)) => (show Calls Tryz.prog 94 #[.pointer (some ⟨R.tb, 0, none⟩), .int .i64 c.fd, .int .i64 z] W fun e W' => e = .returned (.int .i64 z9) ∧ TabAt W' R.tb true T9 ∧ W.grownBy W' (some R.tb) from by have h8 := hq9; rw [← hz] at h8; have h9 := hseek R.tb m.tab c.fd z W hW; rw [h8] at h9; exact h9))
    have HR := Lh (show readP m c = ({ An.zero with d := (d.data.drop s.a.toNat).take c.n.toNat }, { m with tab := T9 }) from by rw [HRS.out, if_neg (by omega)]; have h9 := HSX.out; rw [h9, tx_size] at hq9; rw [hq9])
    clear hq9
    go_region_held3 (fun W => W.cell? ⟨R.mb, 4, none⟩ = some (.pointer (some ⟨R.tb, 0, none⟩)) ∧ W.cell? ⟨w.heap.size, 3, none⟩ = some (.int .i64 c.fd)) (first | (exact F2.out.drew.cellsT) | (exact F3.out.cellsT) | assumption)
     (first | (go_at_call 94; refine (HSK.out _ F2.out.drew.md.tab _ HWS.out).mono ?_; rintro e W3 ⟨rfl, ht, hg⟩; have F3 := Lh (F2.out.drew.tabbed ht hg); clear ht hg))
    clear F2 HSK
    clear a0 a1 a2 a3 a4 a5 a6 m0 m1 m2 m3 m4
    obtain ⟨_, _, _, _, _, _, _, _, _, _, _, _, _, _, _, _, _, _, _, _⟩ := row10_all F3.out.ans
    go_wp2_with fail
    refine fin10 Tryz.results39 rfl rfl F3.out.ans ?_
    · unfold OpR
      rw [HR.out]
      refine ⟨by rw [HSX.out]; rfl, R, ?_, rfl⟩
      repeat (refine Mid.other ?_ F3.out.nz (by omega) _ _)
      exact F3.out.mid
  · have HR := Lh (show readP m c = (failA 216, m) from by rw [HRS.out, if_pos (by omega)])
    by_cases hn0 : 0 ≤ c.n
    · have hn1 : ¬ c.n ≤ 1024 := fun h => hn ⟨hn0, h⟩
      clear hn
      go_wp2_with fail
      refine (mfailed _ _).mono ?_
      rintro e W3 ⟨rfl, hb⟩
      have F3 := Lh (F2.out.below hb)
      clear hb F2
      obtain ⟨_, _, _, _, _, _, _, _, _, _, _, _, _, _, _, _, _, _, _, _⟩ := row10_all F3.out.ans
      unfold failV anV Stt.zero
      go_wp2_with fail
      refine fin10 Tryz.results39 rfl rfl F3.out.ans ?_
      · unfold OpR
        rw [HR.out]
        refine ⟨rfl, R, ?_, rfl⟩
        repeat (refine Mid.other ?_ F3.out.nz (by omega) _ _)
        exact F3.out.mid
    · clear hn
      go_wp2_with fail
      refine (mfailed _ _).mono ?_
      rintro e W3 ⟨rfl, hb⟩
      have F3 := Lh (F2.out.below hb)
      clear hb F2
      obtain ⟨_, _, _, _, _, _, _, _, _, _, _, _, _, _, _, _, _, _, _, _⟩ := row10_all F3.out.ans
      unfold failV anV Stt.zero
      go_wp2_with fail
      refine fin10 Tryz.results39 rfl rfl F3.out.ans ?_
      · unfold OpR
        rw [HR.out]
        refine ⟨rfl, R, ?_, rfl⟩
        repeat (refine Mid.other ?_ F3.out.nz (by omega) _ _)
        exact F3.out.mid
end Go.Proofs.YtppdihpobokfnaaGreatDoor
