/- A part of a proof. -/
import Derived.Test.YtppdihpobokfnaaGreatDoorGC
set_option linter.unusedVariables false
set_option linter.unusedSimpArgs false
set_option maxRecDepth 100000
namespace Go.Proofs.YtppdihpobokfnaaGreatDoor
open Go.RowKit Go.Joins
theorem set_set (m : Md) (k : Nat) (f g : Nd → Nd) : (m.set k f).set k g = m.set k fun x => g (f x) := by
 unfold Md.set setK
 simp only [List.map_map]
 congr 1
 congr 1
 funext p
 simp only [Function.comp]
 by_cases c : p.1 = k
 · rw [if_pos c, if_pos c]; simp only [if_pos c]
 · rw [if_neg c, if_neg c, if_neg c]
set_option maxHeartbeats 8000000 in
theorem mput (R : Rp) (m : Md) (c : Cl) (many : Nat) (w : World) (h : MdAt w R m) (hG : Good m) (hm : many ≤ c.d.size) :
  Calls Tryz.prog 74 #[.pointer (some ⟨R.mb, 0, none⟩), .agg #[.int .i64 c.k, .string c.p, .string c.o, .int .i64 c.fd, .int .i64 c.n, .string c.d, .bool c.on], .int .i64 (many : Int)] w (OpR w R (putP m c many)) := by
 have HG := Lh hG
 have HMM := Lh hm
 obtain ⟨i0, hi0, hz0, hz1, hz2⟩ := info_parts info_byte
 have HI := Lh (And.intro hi0 (And.intro hz0 (And.intro hz1 hz2)))
 clear hi0 hz0 hz1 hz2 hm
 have F0 := Fr.start h c 36 33
 go_enter Tryz.func74, Tryz.ntmps74
 go_upto_region 1 with fail
 generalize (w.alloc (.cells #[.int .i64 c.k, .string c.p, .string c.o, .int .i64 c.fd, .int .i64 c.n, .string c.d, .bool c.on] 36)).alloc (.cells #[.int .i64 0, .int .i64 0, .string ⟨#[]⟩, .slice none 0 0, .int .i64 0, .int .i64 0, .int .i64 0, .bool false, .slice none 0 0, .bool false] 33) = W1 at *
 have F1 := Lh F0
 clear F0
 obtain ⟨a0, a1, a2, a3, a4, a5, a6⟩ := row7_cells F1.out.call
 obtain ⟨m0, m1, m2, m3, m4⟩ := F1.out.md.cells
 go_region_held3 (fun W => W.cell? ⟨R.mb, 4, none⟩ = some (.pointer (some ⟨R.tb, 0, none⟩)) ∧ W.cell? ⟨w.heap.size, 3, none⟩ = some (.int .i64 c.fd)) (first | (exact F1.out.drew.cellsT) | (exact F2.out.cellsT) | assumption)
  (first | (go_at_call 63; refine (hget_any R.tb m.tab c.fd _ F1.out.drew.md.tab).mono ?_; rintro e W2 ⟨rfl, hb⟩; have F2 := Lh (F1.out.drew.below hb); clear hb))
 clear F1 a0 a1 a2 a3 a4 a5 a6 m0 m1 m2 m3 m4
 cases hs : slotOf m.tab c.fd with
 | none =>
  have HR := Lh (show putP m c many = (failA 220, m) from by rw [putP, hs])
  have hg : tGet m.tab c.fd = (0, 0, 220) := by rw [tGet, hs]
  simp only [hg]
  clear hs hg
  go_wp2_with fail
  refine (mfailed _ _).mono ?_
  rintro e W3 ⟨rfl, hb⟩
  have F3 := Lh (F2.out.below hb)
  clear hb F2
  obtain ⟨_, _, _, _, _, _, _, _, _, _, _, _, _, _, _, _, _, _, _, _⟩ := row10_all F3.out.ans
  unfold failV anV Stt.zero
  go_wp2_with fail
  refine fin10 Tryz.results74 rfl rfl F3.out.ans ?_
  · unfold OpR
    rw [HR.out]
    refine ⟨rfl, R, ?_, rfl⟩
    repeat (refine Mid.other ?_ F3.out.nz (by omega) _ _)
    exact F3.out.mid
 | some s =>
  obtain ⟨ha1, ha2, k, hk, d, hd⟩ := HG.out.tab _ _ hs
  obtain ⟨A, hA⟩ := Int.eq_ofNat_of_zero_le ha1
  have hA2 : A ≤ 262144 := by omega
  have HQ := Lh (show putP m c many = if 1024 < c.d.size then (failA 216, m) else if 262144 - (A : Int) < c.d.size then (failA 190, m) else if many = 0 then (An.zero, m) else ({ An.zero with n := many }, { m.set k (fun n => { n with data := overB (growB n.data (A + many)) A ((bts c.d).take many) }) with tab := (tSeek m.tab c.fd ((A : Int) + many)).1 }) from by rw [putP, hs]; simp only [hA, hk, Int.toNat_natCast]; rfl)
  have hg : tGet m.tab c.fd = ((k : Int), (A : Int), 0) := by rw [tGet, hs]; simp only [hk, hA]
  simp only [hg]
  have HD := Lh hd
  clear hs hg hk hA hd ha1 ha2
  obtain ⟨a0, a1, a2, a3, a4, a5, a6⟩ := row7_cells F2.out.call
  by_cases h1 : 1024 < c.d.size
  · have HR := Lh (show putP m c many = (failA 216, m) from by rw [HQ.out, if_pos h1])
    have h1' : (1024 : Int) < (c.d.size : Int) := by omega
    clear h1
    go_wp2_with fail
    refine (mfailed _ _).mono ?_
    rintro e W3 ⟨rfl, hb⟩
    have F3 := Lh (F2.out.below hb)
    clear hb F2
    obtain ⟨_, _, _, _, _, _, _, _, _, _, _, _, _, _, _, _, _, _, _, _⟩ := row10_all F3.out.ans
    unfold failV anV Stt.zero
    go_wp2_with fail
    refine fin10 Tryz.results74 rfl rfl F3.out.ans ?_
    · unfold OpR
      rw [HR.out]
      refine ⟨rfl, R, ?_, rfl⟩
      repeat (refine Mid.other ?_ F3.out.nz (by omega) _ _)
      exact F3.out.mid
  have h1' : ¬ (1024 : Int) < (c.d.size : Int) := by omega
  have hw1 : IntKind.i64.wrap (262144 - (A : Int)) = 262144 - (A : Int) := IntWalk.i64_in _ (by omega)
  by_cases h2 : 262144 - (A : Int) < c.d.size
  · have HR := Lh (show putP m c many = (failA 190, m) from by rw [HQ.out, if_neg h1, if_pos h2])
    clear h1
    go_wp2_with fail
    refine (mfailed _ _).mono ?_
    rintro e W3 ⟨rfl, hb⟩
    have F3 := Lh (F2.out.below hb)
    clear hb F2
    obtain ⟨_, _, _, _, _, _, _, _, _, _, _, _, _, _, _, _, _, _, _, _⟩ := row10_all F3.out.ans
    unfold failV anV Stt.zero
    go_wp2_with fail
    refine fin10 Tryz.results74 rfl rfl F3.out.ans ?_
    · unfold OpR
      rw [HR.out]
      refine ⟨rfl, R, ?_, rfl⟩
      repeat (refine Mid.other ?_ F3.out.nz (by omega) _ _)
      exact F3.out.mid
  by_cases h3 : many = 0
  · have HR := Lh (show putP m c many = (An.zero, m) from by rw [HQ.out, if_neg h1, if_neg h2, if_pos h3])
    subst h3
    clear h1
    obtain ⟨_, _, _, _, _, _, _, _, _, _, _, _, _, _, _, _, _, _, _, _⟩ := row10_all F2.out.ans
    go_wp2_with fail
    refine fin10 Tryz.results74 rfl rfl F2.out.ans ?_
    · unfold OpR
      rw [HR.out]
      refine ⟨rfl, R, ?_, rfl⟩
      repeat (refine Mid.other ?_ F2.out.nz (by omega) _ _)
      exact F2.out.mid
  · have HR0 := Lh (show putP m c many = _ from by rw [HQ.out, if_neg h1, if_neg h2, if_neg h3])
    have HM0 := Lh h3
    have h3' : ((many : Int) == 0) = false := by rw [beq_eq_false_iff_ne]; omega
    have h3'' : ¬ (many : Int) = 0 := by omega
    have hws : IntKind.i64.wrap ((A : Int) + (many : Int)) = ((A + many : Nat) : Int) := by rw [show (A : Int) + (many : Int) = ((A + many : Nat) : Int) from by omega]; exact IntWalk.i64_in _ (by have := HMM.out; omega)
    have hmz : A + many ≤ 1000000 := by have := HMM.out; omega
    have HGR := Lh (mgrow R m k d (A + many) _ F2.out.md HD.out (HG.out.data k d HD.out) hmz)
    have hl := F2.out.md.look HD.out (by have := HG.out.small HD.out; omega)
    obtain ⟨m0, m1, m2, m3, m4⟩ := F2.out.md.cells
    rw [show ((A + many : Nat) : Int) = (A : Int) + (many : Int) from by omega] at HGR hws
    clear h1 h3
    go_wp2_with fail
    refine HGR.out.mono ?_
    rintro e W3 ⟨rfl, v, hM⟩
    have F3 := Lh (F2.out.then hM)
    clear hM HGR F2 hl m0 m1 m2 m3 m4 a0 a1 a2 a3 a4 a5 a6
    have hk3 := lookK_same (f := fun x : Nd => { x with data := growB x.data (A + many) }) HD.out
    have HK3 := Lh hk3
    have hn3 := F3.out.md.nodes k _ hk3
    have edv : (R.withD k v).dv k = v := if_pos rfl
    have hown := hn3.bytes
    rw [edv] at hown
    have HLEN := Lh (growB_len d.data (A + many))
    obtain ⟨gb, cap, rfl, hcap, hrow⟩ := ownB_full hown (by show 0 < (growB d.data (A + many)).length; rw [HLEN.out]; omega)
    obtain ⟨e0, e1, e2, e3, e4, e5⟩ := hn3.cells
    rw [edv] at e3
    obtain ⟨N2, hN2⟩ : ∃ N2, N2 = (growB d.data (A + many)).length := ⟨_, rfl⟩
    have HN2 := Lh hN2
    have hAN : A + many ≤ N2 := by rw [hN2, HLEN.out]; omega
    have hown : OwnB W3 5 (.slice (some ⟨gb, 0, none⟩) N2 cap) N2 (bcells (growB d.data (A + many))) := by rw [hN2]; exact hown
    have e3 : W3.cell? ⟨R.g k, 3, none⟩ = some (.slice (some ⟨gb, 0, none⟩) N2 cap) := by rw [hN2]; exact e3
    have hcap : N2 ≤ cap := by rw [hN2]; exact hcap
    have HOWN := Lh hown
    have i1 : (A : Int) ≤ (N2 : Int) := by omega
    have i2 : (N2 : Int) ≤ (cap : Int) := by omega
    have i3 : ¬ (A : Int) = (cap : Int) := by omega
    have i4 : ¬ A = cap := by omega
    have i7 : ¬ cap = A := by omega
    have i5 : (many : Int) ≤ (c.d.size : Int) := by have := HMM.out; omega
    have i6 : A ≤ N2 := by omega
    obtain ⟨a0, a1, a2, a3, a4, a5, a6⟩ := row7_cells F3.out.call
    clear hown hn3 hk3 hN2 hrow edv e0 e1 e2 e4 e5
    go_wp2_with fail
    go_still_tail 10, (by kernel_rfl)
    change wpList _ _ _ _ _ (World.drew _)
    have F4 := Lh F3.out.drew
    have HOWN4 := Lh (show OwnB W3.drew 5 (.slice (some ⟨gb, 0, none⟩) N2 cap) N2 (bcells (growB d.data (A + many))) from HOWN.out)
    clear F3 HOWN a0 a1 a2 a3 a4 a5 a6 e3
    generalize World.drew W3 = W4 at *
    have hbs : bts (c.d.extract 0 many) = (bts c.d).take many := by rw [bts_extract]; simp
    have hss : (c.d.extract 0 many).size = many := by rw [ByteArray.size_extract]; have := HMM.out; omega
    obtain ⟨W5, hr, ho5, hg5⟩ := run_copy_text (P := Tryz.prog) W4 78 9 3 5 Tryz.underlying78 HI.out.1 HI.out.2.2.1 gb N2 cap (cap - A) (N2 - A) A (growB d.data (A + many)) HOWN4.out (c.d.extract 0 many) (by rw [hss]; omega) (by rw [hss]; omega)
    rw [hbs] at ho5
    have hol : (overB (growB d.data (A + many)) A ((bts c.d).take many)).length = N2 := by
     have := ho5.1
     rw [bcells_length] at this
     omega
    have F5 := Lh (F4.out.then (Mid.over (f := fun x : Nd => { x with data := overB x.data A ((bts c.d).take many) }) F4.out.md HK3.out rfl (by rw [show (R.withD k (.slice (some ⟨gb, 0, none⟩) (growB d.data (A + many)).length cap)).dv k = .slice (some ⟨gb, 0, none⟩) (growB d.data (A + many)).length cap from if_pos rfl]; show OwnB W5 _ _ (overB (growB d.data (A + many)) A ((bts c.d).take many)).length _; rw [hol, ← HN2.out]; exact ho5) (by rw [show (R.withD k (.slice (some ⟨gb, 0, none⟩) (growB d.data (A + many)).length cap)).dv k = .slice (some ⟨gb, 0, none⟩) (growB d.data (A + many)).length cap from if_pos rfl]; exact hg5)))
    rw [set_set] at F5
    clear ho5 hg5 hol hbs hss
    go_upto_region 13 with fail
    clear hr F4 HOWN4 i7 i1 i2 i3 i4 i5 i6 h3' h3'' hcap hAN HN2 HLEN HK3
    have HWS := Lh hws
    obtain ⟨T9, z9, hq9⟩ : ∃ T' z, tSeek m.tab c.fd ((A : Int) + (many : Int)) = (T', z) := ⟨_, _, rfl⟩
    have HSK := Lh (fun W (hW : TabAt W R.tb true m.tab) z (hz : z = (A : Int) + (many : Int)) => (show Calls Tryz.prog 94 #[.pointer (some ⟨R.tb, 0, none⟩), .int .i64 c.fd, .int .i64 z] W fun e W' => e = .returned (.int .i64 z9) ∧ TabAt W' R.tb true T9 ∧ W.grownBy W' (some R.tb) from by have h8 := hq9; rw [← hz] at h8; have h9 := hseek R.tb m.tab c.fd z W hW; rw [h8] at h9; exact h9))
    have HQ9 := Lh hq9
    clear hws hq9
    go_region_held3 (fun W => W.cell? ⟨R.mb, 4, none⟩ = some (.pointer (some ⟨R.tb, 0, none⟩)) ∧ W.cell? ⟨w.heap.size, 3, none⟩ = some (.int .i64 c.fd)) (first | (exact F5.out.drew.cellsT) | (exact F6.out.cellsT) | assumption)
     (first | (go_at_call 94; refine (HSK.out _ F5.out.drew.md.tab _ HWS.out).mono ?_; rintro e W6 ⟨rfl, ht, hg⟩; have F6 := Lh (F5.out.drew.tabbed ht hg); clear ht hg))
    clear F5 HSK
    have HR := Lh (show putP m c many = ({ An.zero with n := many }, { m.set k (fun n => { n with data := overB (growB n.data (A + many)) A ((bts c.d).take many) }) with tab := T9 }) from by rw [HR0.out, HQ9.out])
    obtain ⟨_, _, _, _, _, _, _, _, _, _, _, _, _, _, _, _, _, _, _, _⟩ := row10_all F6.out.ans
    go_wp2_with fail
    refine fin10 Tryz.results74 rfl rfl F6.out.ans ?_
    · unfold OpR
      rw [HR.out]
      refine ⟨rfl, (R.withD k (.slice (some ⟨gb, 0, none⟩) (growB d.data (A + many)).length cap)), ?_, rfl⟩
      repeat (refine Mid.other ?_ F6.out.nz (by omega) _ _)
      exact F6.out.mid
end Go.Proofs.YtppdihpobokfnaaGreatDoor
