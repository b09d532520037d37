/- A part of a proof. -/
import Derived.Test.YtppdihpobokfnaaGreatDoorModW11
set_option linter.unusedVariables false
set_option linter.unusedSimpArgs false
set_option maxRecDepth 100000
namespace Go.Proofs.YtppdihpobokfnaaGreatDoor
open Go.RowKit Go.Joins
theorem mclip (a : Option Addr) (n cap : Nat) (w : World) (hn : n ≤ cap) (hc : cap ≤ 9223372036854775807) : Calls Tryz.prog 96 #[.slice a n cap] w fun e w' => e = .returned (.slice a n n) ∧ w' = w := by
 have h1 : (n : Int) ≤ (cap : Int) := by omega
 have h2 : (0 : Int) ≤ (n : Int) := by omega
 go_enter Tryz.func96, Tryz.ntmps96
 go_wp2
 go_ret
 exact ⟨rfl, rfl⟩
set_option maxHeartbeats 4000000 in
theorem mresize (R : Rp) (m : Md) (c : Cl) (w : World) (h : MdAt w R m) (hG : Good m) :
  Calls Tryz.prog 42 #[.pointer (some ⟨R.mb, 0, none⟩), .agg #[.int .i64 c.k, .string c.p, .string c.o, .int .i64 c.fd, .int .i64 c.n, .string c.d, .bool c.on]] w (OpR w R (resizeP m c)) := by
 have HG := Lh hG
 have F0 := Fr.start h c 36 33
 go_enter Tryz.func42, Tryz.ntmps42
 go_upto_region 1 with fail
 generalize (w.alloc (.cells #[.int .i64 c.k, .string c.p, .string c.o, .int .i64 c.fd, .int .i64 c.n, .string c.d, .bool c.on] 36)).alloc (.cells #[.int .i64 0, .int .i64 0, .string ⟨#[]⟩, .slice none 0 0, .int .i64 0, .int .i64 0, .int .i64 0, .bool false, .slice none 0 0, .bool false] 33) = W1 at *
 have F1 := Lh F0
 clear F0
 obtain ⟨a0, a1, a2, a3, a4, a5, a6⟩ := row7_cells F1.out.call
 obtain ⟨m0, m1, m2, m3, m4⟩ := F1.out.md.cells
 go_region_held3 (fun W => W.cell? ⟨R.mb, 4, none⟩ = some (.pointer (some ⟨R.tb, 0, none⟩)) ∧ W.cell? ⟨w.heap.size, 3, none⟩ = some (.int .i64 c.fd)) (first | (exact F1.out.drew.cellsT) | (exact F2.out.cellsT) | assumption)
  (first | (go_at_call 63; refine (hget_any R.tb m.tab c.fd _ F1.out.drew.md.tab).mono ?_; rintro e W2 ⟨rfl, hb⟩; have F2 := Lh (F1.out.drew.below hb); clear hb))
 clear F1 a0 a1 a2 a3 a4 a5 a6 m0 m1 m2 m3 m4
 cases hs : slotOf m.tab c.fd with
 | none =>
  have HR := Lh (show resizeP m c = (failA 220, m) from by rw [resizeP, hs])
  have hg : tGet m.tab c.fd = (0, 0, 220) := by rw [tGet, hs]
  simp only [hg]
  clear hs hg
  go_wp2_with fail
  refine (mfailed _ _).mono ?_
  rintro e W3 ⟨rfl, hb⟩
  have F3 := Lh (F2.out.below hb)
  clear hb F2
  obtain ⟨_, _, _, _, _, _, _, _, _, _, _, _, _, _, _, _, _, _, _, _⟩ := row10_all F3.out.ans
  unfold failV anV Stt.zero
  go_wp2_with fail
  refine fin10 Tryz.results42 rfl rfl F3.out.ans ?_
  · unfold OpR
    rw [HR.out]
    refine ⟨rfl, R, ?_, rfl⟩
    repeat (refine Mid.other ?_ F3.out.nz (by omega) _ _)
    exact F3.out.mid
 | some s =>
  obtain ⟨ha1, ha2, k, hk, d, hd⟩ := HG.out.tab _ _ hs
  obtain ⟨A, hA⟩ := Int.eq_ofNat_of_zero_le ha1
  have HQ := Lh (show resizeP m c = if c.n < 0 then (failA 216, m) else if 262144 < c.n then (failA 190, m) else (An.zero, m.set k fun n => { n with data := (growB n.data c.n.toNat).take c.n.toNat }) from by rw [resizeP, hs]; simp only [hk, Int.toNat_natCast])
  have hg : tGet m.tab c.fd = ((k : Int), (A : Int), 0) := by rw [tGet, hs]; simp only [hk, hA]
  simp only [hg]
  have HD := Lh hd
  clear hs hg hk hA hd ha1 ha2
  obtain ⟨a0, a1, a2, a3, a4, a5, a6⟩ := row7_cells F2.out.call
  by_cases h1 : c.n < 0
  · have HR := Lh (show resizeP m c = (failA 216, m) from by rw [HQ.out, if_pos h1])
    go_wp2_with fail
    refine (mfailed _ _).mono ?_
    rintro e W3 ⟨rfl, hb⟩
    have F3 := Lh (F2.out.below hb)
    clear hb F2
    obtain ⟨_, _, _, _, _, _, _, _, _, _, _, _, _, _, _, _, _, _, _, _⟩ := row10_all F3.out.ans
    unfold failV anV Stt.zero
    go_wp2_with fail
    refine fin10 Tryz.results42 rfl rfl F3.out.ans ?_
    · unfold OpR
      rw [HR.out]
      refine ⟨rfl, R, ?_, rfl⟩
      repeat (refine Mid.other ?_ F3.out.nz (by omega) _ _)
      exact F3.out.mid
  by_cases h2 : 262144 < c.n
  · have HR := Lh (show resizeP m c = (failA 190, m) from by rw [HQ.out, if_neg h1, if_pos h2])
    go_wp2_with fail
    refine (mfailed _ _).mono ?_
    rintro e W3 ⟨rfl, hb⟩
    have F3 := Lh (F2.out.below hb)
    clear hb F2
    obtain ⟨_, _, _, _, _, _, _, _, _, _, _, _, _, _, _, _, _, _, _, _⟩ := row10_all F3.out.ans
    unfold failV anV Stt.zero
    go_wp2_with fail
    refine fin10 Tryz.results42 rfl rfl F3.out.ans ?_
    · unfold OpR
      rw [HR.out]
      refine ⟨rfl, R, ?_, rfl⟩
      repeat (refine Mid.other ?_ F3.out.nz (by omega) _ _)
      exact F3.out.mid
  obtain ⟨N, hN⟩ := Int.eq_ofNat_of_zero_le (show 0 ≤ c.n by omega)
  have HR := Lh (show resizeP m c = (An.zero, m.set k fun n => { n with data := (growB n.data N).take N }) from by rw [HQ.out, if_neg h1, if_neg h2, hN, Int.toNat_natCast])
  have hN1 : N ≤ 262144 := by omega
  rw [hN] at a4 h1 h2
  have HNN := Lh hN
  have HGR := Lh (mgrow R m k d N _ F2.out.md HD.out (HG.out.data k d HD.out) (by omega))
  have hl := F2.out.md.look HD.out (by have := HG.out.small HD.out; omega)
  obtain ⟨m0, m1, m2, m3, m4⟩ := F2.out.md.cells
  clear hN
  go_wp2_with fail
  refine HGR.out.mono ?_
  rintro e W3 ⟨rfl, v, hM⟩
  have F3 := Lh (F2.out.then hM)
  clear hM HGR F2 hl m0 m1 m2 m3 m4 a0 a1 a2 a3 a4 a5 a6
  have hk3 := lookK_same (f := fun x : Nd => { x with data := growB x.data N }) HD.out
  have HK3 := Lh hk3
  have hn3 := F3.out.md.nodes k _ hk3
  have edv : (R.withD k v).dv k = v := if_pos rfl
  have hown := hn3.bytes
  rw [edv] at hown
  have HLEN := Lh (growB_len d.data N)
  obtain ⟨a, cap, hav⟩ := ownB_form hown
  obtain ⟨e0, e1, e2, e3, e4, e5⟩ := hn3.cells
  have e6 := hn3.free (i := 3) (by omega)
  rw [edv] at e3
  obtain ⟨N2, hN2⟩ : ∃ N2, N2 = (growB d.data N).length := ⟨_, rfl⟩
  have HN2 := Lh hN2
  have hAN : N ≤ N2 := by rw [hN2, HLEN.out]; omega
  have hown : OwnB W3 5 v N2 (bcells (growB d.data N)) := by rw [hN2]; exact hown
  have hav : v = .slice a N2 cap := by rw [hN2]; exact hav
  have HAV := Lh hav
  have hcc : N2 ≤ cap ∧ cap ≤ maxLen := by
   rcases hown.2 with ⟨h8, h9⟩ | ⟨g, cap', cur, h8, _, h9, h10, _⟩
   · rw [h8] at hav; cases hav; exact ⟨by omega, by unfold maxLen; omega⟩
   · rw [h8] at hav; cases hav; exact ⟨h9, h10⟩
  obtain ⟨hcap, hcm⟩ := hcc
  unfold maxLen at hcm
  rw [hav] at e3
  have HOWN := Lh hown
  have i5 : (N : Int) ≤ (cap : Int) := by omega
  have i6 : (0 : Int) ≤ (N : Int) := by omega
  have i7 : N ≤ cap := by omega
  obtain ⟨a0, a1, a2, a3, a4, a5, a6⟩ := row7_cells F3.out.call
  rw [HNN.out] at a4
  have HCL := Lh (fun W => mclip a N cap W i7 hcm)
  obtain ⟨gk, hgk⟩ : ∃ gk, gk = R.g k := ⟨_, rfl⟩
  have e3 : W3.cell? ⟨gk, 3, none⟩ = some (.slice a N2 cap) := by rw [hgk]; exact e3
  have e6 : W3.frozen? ⟨gk, 3, none⟩ = false := by rw [hgk]; exact e6
  have HGK := Lh hgk
  clear hown hn3 hk3 hN2 edv e0 e1 e2 e4 e5 hav hcm
  rw [← hgk]
  clear hgk
  go_wp2_with fail
  go_still_tail 11, (by kernel_rfl)
  still_call (HCL.out _)
  repeat still_step
  refine wpStill_nil ?_
  change wpList _ _ _ _ _ (World.drew _)
  have hcut : OwnB W3.drew 5 (.slice a N N) N (bcells ((growB d.data N).take N)) := by
   have h8 := HOWN.out
   rw [HAV.out] at h8
   have h7 : (growB d.data N).length = N2 := HN2.out.symm
   refine ⟨by rw [bcells_length, List.length_take, h7]; omega, ?_⟩
   rcases h8.2 with ⟨h9, h10⟩ | ⟨g, cap', cur, h9, hh, h10, h11, h12, h13⟩
   · left; cases h9; exact ⟨by rw [show N = 0 from by omega], by omega⟩
   · cases h9
     refine .inr ⟨g, N, cur, rfl, hh, Nat.le_refl _, by omega, by omega, ?_⟩
     have h14 := congrArg (List.take N) h13
     rw [List.take_take, show min N N2 = N from by omega] at h14
     rw [h14, bcells, bcells, List.map_take]
  have hM4 := Mid.bytes (f := fun x : Nd => { x with data := x.data.take N }) F3.out.md.drew HK3.out (bs := (growB d.data N).take N) rfl (by rw [show ((growB d.data N).take N).length = N from by rw [List.length_take, ← HN2.out]; omega]; exact hcut) (World.grownBy.refl _ _) (fun b hb => .inl (by rw [show (R.withD k v).dv k = v from if_pos rfl, HAV.out]; cases a with
   | none => cases hb
   | some _ => exact hb))
  have F4 := Lh (F3.out.drew.then hM4)
  rw [set_set] at F4
  have F4 : Hid (Fr w R.L c (W3.drew.setCell ⟨gk, 3, none⟩ (.slice a N N)) ((R.withD k v).withD k (.slice a N N)) (m.set k fun n => { n with data := (growB n.data N).take N })) := by rw [HGK.out]; exact F4
  clear hM4 hcut F3 HOWN a0 a1 a2 a3 a4 a5 a6
  have e7 : W3.drew.frozen? ⟨gk, 3, none⟩ = false := e6
  have e8 : W3.drew.cell? ⟨gk, 3, none⟩ = some (.slice a N2 cap) := e3
  clear e3 e6
  generalize World.drew W3 = W4 at *
  go_upto_region 11 with fail
  generalize W4.setCell ⟨gk, 3, none⟩ (.slice a N N) = W5 at *
  clear e7 e8
  obtain ⟨_, _, _, _, _, _, _, _, _, _, _, _, _, _, _, _, _, _, _, _⟩ := row10_all F4.out.ans
  go_wp2_with fail
  refine fin10 Tryz.results42 rfl rfl F4.out.ans ?_
  · unfold OpR
    rw [HR.out]
    refine ⟨rfl, ((R.withD k v).withD k (.slice a N N)), ?_, rfl⟩
    repeat (refine Mid.other ?_ F4.out.nz (by omega) _ _)
    exact F4.out.mid
end Go.Proofs.YtppdihpobokfnaaGreatDoor
