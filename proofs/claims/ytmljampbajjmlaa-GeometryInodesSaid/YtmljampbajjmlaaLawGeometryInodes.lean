/- For every input the law glissadelaw05.GeometryInodes returns true. -/
import Derived.Test.YtmljampbajjmlaaGeoAlive
import Derived.Test.YtmljampbajjmlaaFrame
set_option linter.unusedVariables false
set_option linter.unusedSimpArgs false
namespace Go.Proofs.Ytmljampbajjmlaa
open Go.RowKit Go.Joins

/-- one inode's place against another one's -/
theorem place_of (l m G b n : Int) (hm : mayB b l m 1 (1 + l) G (1 + l + G) (m / 2) (1 + l + G + m / 2) = true) (k : Nat) (hk : (k : Int) < m) (P A : Int) (hn0 : 0 ≤ n) (hP : P = 1 + l + G + n / 2) (hA : A = n % 2 * 64) :
    ∃ C T : Int, Hid (∀ W, Calls Try.prog 27 #[gv b l m 1 (1 + l) G (1 + l + G) (m / 2) (1 + l + G + m / 2), .int .i64 (k : Int)] W fun e w' => e = .returned (.tuple #[.int .i64 C, .int .i64 T, .int .i64 0]) ∧ Below W.heap.size W w') ∧
      ((k : Int) = n ∧ (C == P) = true ∧ (T == A) = true ∨ ¬ (k : Int) = n ∧ (k : Int) / 2 = n / 2 ∧ (C == P) = true ∧ (T == A) = false ∨ ¬ (k : Int) = n ∧ ¬ (k : Int) / 2 = n / 2 ∧ (C == P) = false) := by
  refine ⟨1 + l + G + (k : Int) / 2, (k : Int) % 2 * 64, fun W => inode_in _ _ _ _ _ _ _ _ _ (k : Int) W hm (by omega) hk, ?_⟩
  by_cases c1 : (k : Int) = n
  · left
    subst c1
    exact ⟨rfl, by simp [hP], by simp [hA]⟩
  · right
    by_cases c2 : (k : Int) / 2 = n / 2
    · left; exact ⟨c1, c2, by simp [hP, c2], by simp; omega⟩
    · right; exact ⟨c1, c2, by simp; omega⟩

set_option maxRecDepth 100000 in
set_option maxHeartbeats 1000000 in
theorem inodes_in (w : World) (b l m G n P A : Int) (HC1 : Hid (∀ W, Calls Try.prog 24 #[.int .i64 b, .int .i64 l, .int .i64 m] W fun e w' => e = .returned (.tuple #[gv b l m 1 (1 + l) G (1 + l + G) (m / 2) (1 + l + G + m / 2), .int .i64 0]) ∧ Below W.heap.size W w')) (HM : Hid (mayB b l m 1 (1 + l) G (1 + l + G) (m / 2) (1 + l + G + m / 2) = true))
    (HC2 : Hid (∀ W, Calls Try.prog 27 #[gv b l m 1 (1 + l) G (1 + l + G) (m / 2) (1 + l + G + m / 2), .int .i64 n] W fun e w' => e = .returned (.tuple #[.int .i64 P, .int .i64 A, .int .i64 0]) ∧ Below W.heap.size W w'))
    (HC3 : Hid (∀ W, Calls Try.prog 31 #[gv b l m 1 (1 + l) G (1 + l + G) (m / 2) (1 + l + G + m / 2), .int .i64 P] W fun e w' => e = .returned (.int .i64 3) ∧ Below W.heap.size W w'))
    (HP : Hid (P = 1 + l + G + n / 2)) (HA : Hid (A = n % 2 * 64)) (n0 : 0 ≤ n) (n1 : n < m) (m1 : m ≤ 512) (hA : A = 0 ∨ A = 64) :
    Calls Try.prog 13 #[.agg #[.int .i64 b, .int .i64 l, .int .i64 m], .int .i64 n] w fun e w' => e = .returned (.bool true) ∧ Below w.heap.size w w' := by
  have hA' : (A != 0) = false ∨ (A != 0) = true ∧ (A != 64) = false := by rcases hA with h | h <;> simp [h]
  clear hA
  rcases hA' with a1 | ⟨a1, a2⟩
  all_goals
    go_enter Try.func13, Try.ntmps13
    go_wp2_with fail
    refine (HC1.out _).mono ?_
    rintro e w1 ⟨rfl, hb1⟩
    have B0 := (Below.refl w.heap.size w).alloc (Nat.le_refl _) (.cells #[.int .i64 b, .int .i64 l, .int .i64 m] 56)
    have B1 := below_chain B0 hb1 B0.size
    go_wp2_with fail
    refine (HC2.out _).mono ?_
    rintro e w2 ⟨rfl, hb2⟩
    have B2 := below_chain (B1.alloc B1.size _) hb2 (B1.alloc B1.size _).size
    have hr := (rowAt_alloc w1 #[.int .i64 b, .int .i64 l, .int .i64 m, .int .i64 1, .int .i64 (1 + l), .int .i64 G, .int .i64 (1 + l + G), .int .i64 (m / 2), .int .i64 (1 + l + G + m / 2)] 42).below hb2 (by simp)
    obtain ⟨c0, c1, c2, c3, c4, c5, c6, c7, c8⟩ := geo_cells hr
    go_wp2_with fail
    refine (HC3.out _).mono ?_
    rintro e w3 ⟨rfl, hb3⟩
    have B3 := below_chain B2 hb3 B2.size
    have hr3 := hr.below hb3 hr.lt
    clear c0 c1 c2 c3 c4 c5 c6 c7 c8
    go_wp2_with fail
    go_loopw [11] (fun i wr => ∃ k : Nat, k ≤ m ∧ i = .int .i64 k ∧ RowAt wr w1.heap.size [.int .i64 b, .int .i64 l, .int .i64 m, .int .i64 1, .int .i64 (1 + l), .int .i64 G, .int .i64 (1 + l + G), .int .i64 (m / 2), .int .i64 (1 + l + G + m / 2)] ∧ Below w.heap.size w wr) (fun i _ => 600 - (intOf i).toNat)
    case atStart => exact ⟨0, by omega, rfl, hr3, B3⟩
    case round =>
      clear hr hr3 B3 B2 hb3 hb2
      obtain ⟨k, hk, rfl, hr, B3⟩ := hrel
      obtain ⟨c0, c1, c2, c3, c4, c5, c6, c7, c8⟩ := geo_cells hr
      by_cases hlt : (k : Int) < m
      · obtain ⟨C, T, HC5, hc⟩ := place_of l m G b n HM.out k hlt P A n0 HP.out HA.out
        rcases hc with ⟨e1, e2, e3⟩ | ⟨e1, e2, e3, e4⟩ | ⟨e1, e2, e3⟩
        · have x1 : ((k : Int) == n) = true := by simp [e1]
          have x2 : ((k : Int) / 2 == n / 2) = true := by simp [e1]
          clear e1
          go_wp2_with fail
          refine (HC5.out _).mono ?_
          rintro e w4 ⟨rfl, hb4⟩
          have B4 := below_chain B3 hb4 B3.size
          have hr4 := hr.below hb4 hr.lt
          go_wp2_with fail
          go_roundw
          case rel => exact ⟨k + 1, by omega, by go_num, hr4, B4⟩
          case measure => simp [intOf]; omega
        · have x1 : ((k : Int) == n) = false := by simp [e1]
          have x2 : ((k : Int) / 2 == n / 2) = true := by simp [e2]
          clear e1 e2
          go_wp2_with fail
          refine (HC5.out _).mono ?_
          rintro e w4 ⟨rfl, hb4⟩
          have B4 := below_chain B3 hb4 B3.size
          have hr4 := hr.below hb4 hr.lt
          go_wp2_with fail
          go_roundw
          case rel => exact ⟨k + 1, by omega, by go_num, hr4, B4⟩
          case measure => simp [intOf]; omega
        · have x1 : ((k : Int) == n) = false := by simp [e1]
          have x2 : ((k : Int) / 2 == n / 2) = false := by simp [e2]
          clear e1 e2
          go_wp2_with fail
          refine (HC5.out _).mono ?_
          rintro e w4 ⟨rfl, hb4⟩
          have B4 := below_chain B3 hb4 B3.size
          have hr4 := hr.below hb4 hr.lt
          go_wp2_with fail
          go_roundw
          case rel => exact ⟨k + 1, by omega, by go_num, hr4, B4⟩
          case measure => simp [intOf]; omega
      · go_wp2_with fail
        refine (alive05 _).mono ?_
        rintro e w5 ⟨rfl, hb5⟩
        have B5 := below_chain B3 hb5 B3.size
        go_wp2_with fail
        go_ret
        exact ⟨rfl, B5⟩

set_option maxRecDepth 100000 in
set_option maxHeartbeats 1000000 in
theorem inodes_out (w : World) (b l m G n : Int) (HC1 : Hid (∀ W, Calls Try.prog 24 #[.int .i64 b, .int .i64 l, .int .i64 m] W fun e w' => e = .returned (.tuple #[gv b l m 1 (1 + l) G (1 + l + G) (m / 2) (1 + l + G + m / 2), .int .i64 0]) ∧ Below W.heap.size W w'))
    (HC2 : Hid (∀ W, Calls Try.prog 27 #[gv b l m 1 (1 + l) G (1 + l + G) (m / 2) (1 + l + G + m / 2), .int .i64 n] W fun e w' => e = .returned (.tuple #[.int .i64 0, .int .i64 0, .int .i64 4]) ∧ Below W.heap.size W w'))
    (hn : n < 0 ∨ m ≤ n) :
    Calls Try.prog 13 #[.agg #[.int .i64 b, .int .i64 l, .int .i64 m], .int .i64 n] w fun e w' => e = .returned (.bool true) ∧ Below w.heap.size w w' := by
  by_cases n0 : 0 ≤ n
  all_goals
    have n1 : n < 0 ∨ m ≤ n := hn
    clear hn
    go_enter Try.func13, Try.ntmps13
    go_wp2_with fail
    refine (HC1.out _).mono ?_
    rintro e w1 ⟨rfl, hb1⟩
    have B0 := (Below.refl w.heap.size w).alloc (Nat.le_refl _) (.cells #[.int .i64 b, .int .i64 l, .int .i64 m] 56)
    have B1 := below_chain B0 hb1 B0.size
    go_wp2_with fail
    refine (HC2.out _).mono ?_
    rintro e w2 ⟨rfl, hb2⟩
    have B2 := below_chain (B1.alloc B1.size _) hb2 (B1.alloc B1.size _).size
    go_wp2_with fail
    refine (alive05 _).mono ?_
    rintro e w5 ⟨rfl, hb5⟩
    have B5 := below_chain B2 hb5 B2.size
    go_wp2_with fail
    go_ret
    exact ⟨rfl, B5⟩

theorem inodes_none (w : World) (b l m n : Int) (h : geoOk b l m = false) :
    Calls Try.prog 13 #[.agg #[.int .i64 b, .int .i64 l, .int .i64 m], .int .i64 n] w fun e w' => e = .returned (.bool true) ∧ Below w.heap.size w w' := by
  have HC1 := Lib.hid (fun W => of_no b l m W h)
  clear h
  go_enter Try.func13, Try.ntmps13
  go_wp2_with fail
  refine (HC1.out _).mono ?_
  rintro e w1 ⟨rfl, hb1⟩
  have B0 := (Below.refl w.heap.size w).alloc (Nat.le_refl _) (.cells #[.int .i64 b, .int .i64 l, .int .i64 m] 56)
  have B1 := below_chain B0 hb1 B0.size
  go_wp2_with fail
  refine (alive05 _).mono ?_
  rintro e w5 ⟨rfl, hb5⟩
  have B5 := below_chain (B1.alloc B1.size _) hb5 (B1.alloc B1.size _).size
  go_wp2_with fail
  go_ret
  exact ⟨rfl, B5⟩

theorem walk_geometryInodes (w : World) (b l m : Int) (_ : ∀ z ∈ [b, l, m], -9223372036854775808 ≤ z ∧ z ≤ 9223372036854775807) (n : Int) (_ : -9223372036854775808 ≤ n) (_ : n ≤ 9223372036854775807) :
    Calls Try.prog 13 #[.agg #[.int .i64 b, .int .i64 l, .int .i64 m], .int .i64 n] w fun e w' => e = .returned (.bool true) ∧ Below w.heap.size w w' := by
  by_cases h : geoOk b l m = true
  · obtain ⟨h1, h2, h3, h4, h5, h6, h7, h8⟩ := geoOk_iff.1 h
    have hm : mayB b l m 1 (1 + l) (gMap b) (1 + l + gMap b) (m / 2) (1 + l + gMap b + m / 2) = true := mayB_iff.2 ⟨h, rfl, rfl, rfl, rfl, rfl, rfl⟩
    have hd : gData b l m = 1 + l + gMap b + m / 2 := rfl
    have hg := gMap_bd h1 h2
    by_cases hn : 0 ≤ n ∧ n < m
    · have hw : whereV b l m 1 (1 + l) (gMap b) (1 + l + gMap b) (m / 2) (1 + l + gMap b + m / 2) (1 + l + gMap b + n / 2) = 3 := by
        unfold whereV
        rw [if_pos ⟨hm, by omega, by omega⟩, if_neg (by omega), if_neg (by omega), if_neg (by omega), if_pos (by omega)]
      refine inodes_in w b l m (gMap b) n (1 + l + gMap b + n / 2) (n % 2 * 64) (Lib.hid (fun W => of_yes b l m W h)) (Lib.hid hm) (Lib.hid (fun W => inode_in _ _ _ _ _ _ _ _ _ n W hm hn.1 hn.2)) (Lib.hid (fun W => ?_)) rfl rfl hn.1 hn.2 h6 (by omega)
      have := where_any b l m 1 (1 + l) (gMap b) (1 + l + gMap b) (m / 2) (1 + l + gMap b + m / 2) (1 + l + gMap b + n / 2) W
      rw [hw] at this; exact this
    · exact inodes_out w b l m (gMap b) n (Lib.hid (fun W => of_yes b l m W h)) (Lib.hid (fun W => inode_none _ _ _ _ _ _ _ _ _ n W hm hn)) (by omega)
  · exact inodes_none w b l m n (by simpa using h)

/-! ### the frame (printed by mklaw.py) -/

set_option maxRecDepth 100000 in
theorem lifted_geometryInodes (os : Os) (started : os.Started) (H : Type) (enc : TypeId × Value → H) :
    ReturnsInHanded {} Try.checked os 13 .any (Rows.geometryInodesSpec.pre6 enc Try.prog Try.f13 Rows.geometryInodesRow.domain false) (Rows.geometryInodesSpec.post enc Try.prog Try.f13 false true false false) := by
  refine law_step (C := Try.checked) (tb := 4) (by kernel_rfl) (by kernel_rfl) started (by kernel_rfl) Try.func13 rfl Try.underlying4 rfl ?_ ?_
    (ChangeSpec.witness6 (enc := enc) (C := Try.checked) false ⟨#[], #[.agg #[.int .i64 0, .int .i64 0, .int .i64 0], .int .i64 0], []⟩ 8 (by kernel_rfl) (by kernel_rfl) (by kernel_rfl) (by kernel_rfl)) ?_
  · intro ds hl
    match ds, hl with
    | [d0, d1], _ => rfl
  · intro t ht
    rw [show Try.f13.params.toList = [56, 3] from by rw [Try.params13]] at ht
    simp only [List.mem_cons, List.not_mem_nil, or_false] at ht
    rcases ht with rfl | rfl
    · exact ⟨by kernel_rfl, of_decide_eq_true (by kernel_rfl)⟩
    · exact ⟨by kernel_rfl, of_decide_eq_true (by kernel_rfl)⟩
  · intro W args hG
    rw [show Try.f13.params.toList = [56, 3] from by rw [Try.params13]] at hG
    obtain ⟨v0, v1, rfl, g0, g1⟩ := gotAll_args2 hG
    obtain ⟨zs0, rfl, zl0, zh0⟩ := got_flat (k := .i64) (n := 3) (by kernel_rfl) g0
    obtain ⟨z0_0, z0_1, z0_2, rfl⟩ : ∃ z0_0 z0_1 z0_2, zs0 = [z0_0, z0_1, z0_2] := by
      match zs0, zl0 with
      | [z0_0, z0_1, z0_2], _ => exact ⟨z0_0, z0_1, z0_2, rfl⟩
    obtain ⟨a1, rfl, b1, c1⟩ := got_i64 Try.underlying3 g1
    exact walk_geometryInodes W z0_0 z0_1 z0_2 (fun z hz => has_i64 (zh0 z hz)) a1 b1 c1

theorem geometryInodes_over : Rows.geometryInodesRow.holds Try.pinned (OpenSpec.ofChange Rows.geometryInodesSpec) :=
  OpenClaim.holds_of_wide 13 Try.f13 rfl rfl rfl rfl rfl rfl rfl ⟨rfl, rfl, rfl, rfl, rfl⟩ rfl rfl rfl rfl rfl (by kernel_rfl) Try.func13 (by kernel_rfl)
    (of_decide_eq_true (by kernel_rfl)) (by unfold Func.isWrapper; first | (rw [if_pos (by decide +kernel)]; kernel_rfl) | (rw [if_neg (by decide +kernel)]; exact ⟨rfl, rfl⟩))
    (fun os started H enc _ => lifted_geometryInodes os started H enc)

theorem geometryInodes_holds : Rows.GeometryInodesSaid := geometryInodes_over
#print axioms geometryInodes_holds

end Go.Proofs.Ytmljampbajjmlaa
