/- For every input the law glissadelaw11.InodesDecode returns true. -/
import Derived.Test.YtdeemaafngehoaaInoRef4
import Derived.Test.YtdeemaafngehoaaInoAlive
import Derived.Test.YtdeemaafngehoaaFrame
set_option linter.unusedVariables false
set_option linter.unusedSimpArgs false
set_option maxRecDepth 100000
namespace Go.Proofs.Ytdeemaafngehoaa
open Go.RowKit Go.Joins

set_option maxHeartbeats 4000000 in
theorem inoDec_core (s : ByteArray) (w : World) (k : Int) (p : Bool) (l sz d : Int) (es : List (Int × Int × Int)) (n : Nat) (hn : n = es.length) (hn1 : n ≤ 100000) (e0 : Int)
    (HD : Hid (∀ W, Calls Try.prog 23 #[.string s] W fun e w' => ∃ a cap, e = .returned (.tuple #[iv k p l sz d a n cap, .int .i64 e0]) ∧ NewE w' W.heap.size a es ∧ Below W.heap.size W w'))
    (HR : Hid (∀ W, Calls Try.prog 24 #[.string s] W fun e w' => ∃ a cap, e = .returned (.tuple #[iv k p l sz d a n cap, .int .i64 e0]) ∧ NewE w' W.heap.size a es ∧ Below W.heap.size W w')) :
    Calls Try.prog 4 #[.string s] w fun e w' => e = .returned (.bool true) ∧ Below w.heap.size w w' := by
  have HS : Hid (∀ a b c1 c2 W, EntS W a es → EntS W b es → Calls Try.prog 21 #[iv k p l sz d a n c1, iv k p l sz d b n c2] W fun e w' => e = .returned (.bool true) ∧ Below W.heap.size W w') := by
    intro a b c1 c2 W hE hF
    subst hn
    have := same11_any ⟨k, p, l, sz, d, es⟩ ⟨k, p, l, sz, d, es⟩ c1 c2 W hn1 hn1 hE hF
    rw [sameI_refl] at this
    exact this
  have HA := Lib.hid alive11
  have he0 : (e0 != e0) = false := by simp
  have HN := Lib.hid hn
  clear hn
  go_enter Try.func4, Try.ntmps4
  go_wp2_with fail
  refine (HD.out _).mono ?_
  rintro e w1 ⟨a1, cap1, rfl, hn1', hb1⟩
  have B1 := hb1.alloc hb1.size (.cells #[.int .i64 k, .bool p, .int .i64 l, .int .i64 sz, .int .i64 d, .slice a1 n cap1] 24)
  have r1 := rowAt_alloc w1 #[.int .i64 k, .bool p, .int .i64 l, .int .i64 sz, .int .i64 d, .slice a1 n cap1] 24
  have n1 := hn1'.below ((Below.refl w1.heap.size w1).alloc (Nat.le_refl _) (.cells #[.int .i64 k, .bool p, .int .i64 l, .int .i64 sz, .int .i64 d, .slice a1 n cap1] 24)) (Nat.le_refl _)
  have G1 : n = 0 ∨ ∃ g xs, a1 = some ⟨g, 0, none⟩ ∧ w.heap.size ≤ g ∧ g < w1.heap.size ∧ xs.length = n * 3 ∧ RowAt (w1.alloc (.cells #[.int .i64 k, .bool p, .int .i64 l, .int .i64 sz, .int .i64 d, .slice a1 n cap1] 24)) g xs := by
    rcases hn1' with h | ⟨g, hg, hw, hr⟩
    · exact .inl (by rw [HN.out, h]; rfl)
    · exact .inr ⟨g, _, hg, hw, hr.lt, by rw [ecells_length, HN.out], hr.alloc _⟩
  have hsz1 : w.heap.size ≤ w1.heap.size := hb1.size
  clear hn1' hb1
  go_wp2_with fail
  refine (HR.out _).mono ?_
  rintro e w2 ⟨a2, cap2, rfl, hn2', hb2⟩
  rw [World.size_alloc] at hn2'
  have B2 := below_chain B1 hb2 B1.size
  have r2 := r1.below hb2 r1.lt
  have n2 := n1.below hb2 (Nat.le_refl _)
  have G2 : n = 0 ∨ ∃ g xs, a1 = some ⟨g, 0, none⟩ ∧ w.heap.size ≤ g ∧ g < w1.heap.size ∧ xs.length = n * 3 ∧ RowAt w2 g xs := by
    rcases G1 with h | ⟨g, xs, ha, hw, hl, hx, hr⟩
    · exact .inl h
    · exact .inr ⟨g, xs, ha, hw, hl, hx, hr.below hb2 hr.lt⟩
  clear G1 n1 r1 B1 hb2
  have B3 := B2.alloc B2.size (.cells #[.int .i64 k, .bool p, .int .i64 l, .int .i64 sz, .int .i64 d, .slice a2 n cap2] 24)
  have r3 := r2.alloc (.cells #[.int .i64 k, .bool p, .int .i64 l, .int .i64 sz, .int .i64 d, .slice a2 n cap2] 24)
  have z3 := rowAt_alloc w2 #[.int .i64 k, .bool p, .int .i64 l, .int .i64 sz, .int .i64 d, .slice a2 n cap2] 24
  have n3 := n2.below ((Below.refl w2.heap.size w2).alloc (Nat.le_refl _) (.cells #[.int .i64 k, .bool p, .int .i64 l, .int .i64 sz, .int .i64 d, .slice a2 n cap2] 24)) (Nat.le_refl _)
  have m3 := hn2'.below ((Below.refl w2.heap.size w2).alloc (Nat.le_refl _) (.cells #[.int .i64 k, .bool p, .int .i64 l, .int .i64 sz, .int .i64 d, .slice a2 n cap2] 24)) (Nat.le_refl _)
  have hsz2 := r2.lt
  obtain ⟨c0, c1, c2, c3, c4, c5⟩ := six_cells r2
  go_wp2_with fail
  refine (HS.out _ _ _ _ _ n3.ents m3.ents).mono ?_
  rintro e w4 ⟨rfl, hb4⟩
  clear c0 c1 c2 c3 c4 c5
  have B4 := below_chain B3 hb4 B3.size
  have r4 := r3.below hb4 r3.lt
  have z4 := z3.below hb4 z3.lt
  have m4 := m3.below hb4 (Nat.le_refl _)
  have G4 : n = 0 ∨ ∃ g xs, a1 = some ⟨g, 0, none⟩ ∧ w.heap.size ≤ g ∧ g < w1.heap.size ∧ xs.length = n * 3 ∧ RowAt w4 g xs := by
    rcases G2 with h | ⟨g, xs, ha, hw, hl, hx, hr⟩
    · exact .inl h
    · exact .inr ⟨g, xs, ha, hw, hl, hx, (hr.alloc _).below hb4 (hr.alloc _).lt⟩
  clear G2 n2 n3 r2 r3 z3 B2 B3 hb4 hn2' m3
  go_wp2_with fail
  go_loopw [7] (fun i wr => ∃ j : Nat, j ≤ n ∧ i = .int .i64 j ∧ RowAt wr w1.heap.size [.int .i64 k, .bool p, .int .i64 l, .int .i64 sz, .int .i64 d, .slice a1 n cap1] ∧ RowAt wr w2.heap.size [.int .i64 k, .bool p, .int .i64 l, .int .i64 sz, .int .i64 d, .slice a2 n cap2] ∧ NewE wr (w1.heap.size + 1) a2 es ∧ (n = 0 ∨ ∃ g xs, a1 = some ⟨g, 0, none⟩ ∧ w.heap.size ≤ g ∧ g < w1.heap.size ∧ xs.length = n * 3 ∧ RowAt wr g xs) ∧ Below w.heap.size w wr) (fun i _ => n - (intOf i).toNat)
  case atStart => exact ⟨0, by omega, rfl, r4, z4, m4, G4, B4⟩
  case round =>
    clear G4 r4 z4 m4 B4
    obtain ⟨j, hj, rfl, r5, z5, m5, G5, B5⟩ := hrel
    obtain ⟨c0, c1, c2, c3, c4, c5⟩ := six_cells r5
    have hl5 := r5.lt
    by_cases hlt : j < n
    · rcases G5 with h | ⟨g, xs, rfl, hw, hl, hx, hr⟩
      · omega
      · have hg1 := hr.lt
        obtain ⟨o0, d0⟩ := hr.there (j * 3) (by omega)
        obtain ⟨o1, d1⟩ := hr.there (j * 3 + 1) (by omega)
        obtain ⟨o2, d2⟩ := hr.there (j * 3 + 2) (by omega)
        have f0 := hr.frozen (j * 3) (by omega)
        have f1 := hr.frozen (j * 3 + 1) (by omega)
        have f2 := hr.frozen (j * 3 + 2) (by omega)
        have hi0 : (0 : Int) ≤ (j : Int) := by omega
        have hi1 : (j : Int) < (n : Int) := by omega
        have HX := Lib.hid hx
        clear hx
        go_wp2_with fail
        go_roundw
        case rel =>
          refine ⟨j + 1, by omega, by go_num, ((r5.other _ _ (by simp; omega)).other _ _ (by simp; omega)).other _ _ (by simp; omega), ((z5.other _ _ (by simp; omega)).other _ _ (by simp; omega)).other _ _ (by simp; omega), ((m5.other _ _ (by simp; omega)).other _ _ (by simp; omega)).other _ _ (by simp; omega), ?_, ((B5.setCell (by simp; omega) _).setCell (by simp; omega) _).setCell (by simp; omega) _⟩
          exact .inr ⟨g, _, rfl, hw, hl, by rw [List.length_set, List.length_set, List.length_set]; exact HX.out, ((hr.set (j * 3) _).set (j * 3 + 1) _).set (j * 3 + 2) _⟩
        case measure => simp [intOf]; omega
    · have hjn : ¬ (j : Int) < (n : Int) := by omega
      go_wp2_with fail
      refine (HD.out _).mono ?_
      rintro e w6 ⟨a6, cap6, rfl, hn6, hb6⟩
      clear c0 c1 c2 c3 c4 c5
      have B6 := below_chain B5 hb6 B5.size
      have z6 := z5.below hb6 z5.lt
      have m6 := m5.below hb6 (Nat.le_refl _)
      have B7 := B6.alloc B6.size (.cells #[.int .i64 k, .bool p, .int .i64 l, .int .i64 sz, .int .i64 d, .slice a6 n cap6] 24)
      have m7 := m6.below ((Below.refl w6.heap.size w6).alloc (Nat.le_refl _) (.cells #[.int .i64 k, .bool p, .int .i64 l, .int .i64 sz, .int .i64 d, .slice a6 n cap6] 24)) (Nat.le_refl _)
      have n7 := hn6.below ((Below.refl w6.heap.size w6).alloc (Nat.le_refl _) (.cells #[.int .i64 k, .bool p, .int .i64 l, .int .i64 sz, .int .i64 d, .slice a6 n cap6] 24)) (Nat.le_refl _)
      obtain ⟨c0, c1, c2, c3, c4, c5⟩ := six_cells z6
      have hl6 := z6.lt
      go_wp2_with fail
      refine (HS.out _ _ _ _ _ n7.ents m7.ents).mono ?_
      rintro e w8 ⟨rfl, hb8⟩
      have B8 := below_chain B7 hb8 B7.size
      clear c0 c1 c2 c3 c4 c5
      go_wp2_with fail
      refine (HA.out _).mono ?_
      rintro e w9 ⟨rfl, hb9⟩
      have B9 := below_chain B8 hb9 B8.size
      go_wp2_with fail
      go_ret
      exact ⟨rfl, B9⟩

theorem walk_inodesDecode (w : World) (s : ByteArray) (b : s.size ≤ 140737488351232) : Calls Try.prog 4 #[.string s] w fun e w' => e = .returned (.bool true) ∧ Below w.heap.size w w' := by
  have hs := size_le_maxLen b
  by_cases h : inoDec s = true
  · have hlen : (inoP s).es.length ≤ 4 := by
      show (entsOf _ _).length ≤ 4
      rw [entsOf_length]; omega
    exact inoDec_core s w (inoP s).k (inoP s).p (inoP s).l (inoP s).s (inoP s).d (inoP s).es (inoP s).es.length rfl (by omega) 0 (Lib.hid (fun W => idec_yes s W h)) (Lib.hid (fun W => rdec_yes11 s W h))
  · have h' : inoDec s = false := by simpa using h
    have hz : ∀ W (e : Ending) (w' : World), DecN W e w' → ∃ a cap, e = .returned (.tuple #[iv 0 false 0 0 0 a 0 cap, .int .i64 80]) ∧ NewE w' W.heap.size a [] ∧ Below W.heap.size W w' := fun W e w' hd => ⟨none, 0, hd.1, .inl rfl, hd.2⟩
    exact inoDec_core s w 0 false 0 0 0 [] 0 rfl (by omega) 80 (Lib.hid (fun W => (idec_no s W hs h').mono (hz W))) (Lib.hid (fun W => (rdec_no11 s W hs h').mono (hz W)))

/-! ### the frame (printed by mklaw.py) -/

set_option maxRecDepth 100000 in
theorem lifted_inodesDecode (os : Os) (started : os.Started) (H : Type) (enc : TypeId × Value → H) :
    ReturnsInHanded {} Try.checked os 4 .any (Rows.inodesDecodeSpec.pre6 enc Try.prog Try.f4 Rows.inodesDecodeRow.domain false) (Rows.inodesDecodeSpec.post enc Try.prog Try.f4 false true false false) := by
  refine law_step (C := Try.checked) (tb := 4) (by kernel_rfl) (by kernel_rfl) started (by kernel_rfl) Try.func4 rfl Try.underlying4 rfl ?_ ?_
    (ChangeSpec.witness6 (enc := enc) (C := Try.checked) false ⟨#[], #[.string ByteArray.empty], []⟩ 8 (by kernel_rfl) (by kernel_rfl) (by kernel_rfl) (by kernel_rfl)) ?_
  · intro ds hl
    match ds, hl with
    | [d0], _ => rfl
  · intro t ht
    rw [show Try.f4.params.toList = [9] from by rw [Try.params4]] at ht
    simp only [List.mem_cons, List.not_mem_nil, or_false] at ht
    rcases ht with rfl
    · exact ⟨by kernel_rfl, of_decide_eq_true (by kernel_rfl)⟩
  · intro W args hG
    rw [show Try.f4.params.toList = [9] from by rw [Try.params4]] at hG
    obtain ⟨v0, rfl, g0⟩ := gotAll_args1 hG
    obtain ⟨a0, rfl, b0⟩ := got_string Try.underlying9 g0
    exact walk_inodesDecode W a0 b0

theorem inodesDecode_over : Rows.inodesDecodeRow.holds Try.pinned (OpenSpec.ofChange Rows.inodesDecodeSpec) :=
  OpenClaim.holds_of_wide 4 Try.f4 rfl rfl rfl rfl rfl rfl rfl ⟨rfl, rfl, rfl, rfl, rfl⟩ rfl rfl rfl rfl rfl (by kernel_rfl) Try.func4 (by kernel_rfl)
    (of_decide_eq_true (by kernel_rfl)) (by unfold Func.isWrapper; first | (rw [if_pos (by decide +kernel)]; kernel_rfl) | (rw [if_neg (by decide +kernel)]; exact ⟨rfl, rfl⟩))
    (fun os started H enc _ => lifted_inodesDecode os started H enc)

theorem inodesDecode_holds : Rows.InodesDecodeSaid := inodesDecode_over
#print axioms inodesDecode_holds

end Go.Proofs.Ytdeemaafngehoaa
