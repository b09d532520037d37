/- For every input the law glissadelaw11.InodesFree returns true. -/
import Derived.Test.YtdeemaafngehoaaInoWalks5
import Derived.Test.YtdeemaafngehoaaInoAlive
import Derived.Test.YtdeemaafngehoaaFrame
set_option linter.unusedVariables false
set_option linter.unusedSimpArgs false
set_option maxRecDepth 100000
namespace Go.Proofs.Ytdeemaafngehoaa
open Go.RowKit Go.Joins

set_option maxHeartbeats 4000000 in
theorem inoFree_core (w : World) (k0 : Int) (p : Bool) (l sz d : Int) (a : Option Addr) (n cap : Nat) (hn : n ≤ 1000) (T : ByteArray) (e0 : Int) (ok : Bool)
    (HE : Hid (∀ W, Below w.heap.size w W → Calls Try.prog 17 #[iv 0 p l sz d a n cap] W fun e w' => e = .returned (.tuple #[.string T, .int .i64 e0]) ∧ Below W.heap.size W w'))
    (HK : Hid (∀ W, Below w.heap.size w W → Calls Try.prog 19 #[iv 0 p l sz d a n cap] W fun e w' => e = .returned (.bool ok) ∧ Below W.heap.size W w'))
    (HS : Hid (∀ W, Below w.heap.size w W → Calls Try.prog 21 #[iv 0 p l sz d a n cap, iv 0 false 0 0 0 none 0 0] W fun e w' => e = .returned (.bool ok) ∧ Below W.heap.size W w'))
    (hok : e0 = 0 ∧ ok = true ∧ (T.toList == (zerosB 64).toList) = true ∨ e0 = 2 ∧ ok = false) :
    Calls Try.prog 8 #[iv k0 p l sz d a n cap] w fun e w' => e = .returned (.bool true) ∧ Below w.heap.size w w' := by
  have HA := Lib.hid alive11
  obtain ⟨i0, hi, hz0, hz1, hz2⟩ := info_parts info_u8b
  have hn2 : ¬ (1000 : Int) < (n : Int) := by omega
  have B0 : Below w.heap.size w (w.alloc (.cells #[.int .i64 0, .bool p, .int .i64 l, .int .i64 sz, .int .i64 d, .slice a n cap] 24)) := (Below.refl w.heap.size w).alloc (Nat.le_refl _) _
  have r0 := rowAt_alloc w #[.int .i64 0, .bool p, .int .i64 l, .int .i64 sz, .int .i64 d, .slice a n cap] 24
  obtain ⟨W1, hmk, hbm, hrm⟩ := make_bytes (P := Try.prog) (w.alloc (.cells #[.int .i64 0, .bool p, .int .i64 l, .int .i64 sz, .int .i64 d, .slice a n cap] 24)) 39 5 i0 Try.underlying39 hi hz0 hz1 hz2 64 (by decide)
  have B1 := below_chain B0 hbm B0.size
  have r1 := r0.below hbm r0.lt
  simp only [World.size_alloc] at hmk hrm
  have hmk' : (Instr.makeSlice 39 (.int .i64 64) (.int .i64 64)).run Try.prog (w.alloc (.cells #[.int .i64 0, .bool p, .int .i64 l, .int .i64 sz, .int .i64 d, .slice a n cap] 24)) = .ok (.slice (some ⟨w.heap.size + 1, 0, none⟩) 64 64) W1 := hmk
  have hback : (convert 39 9 (.slice (some ⟨w.heap.size + 1, 0, none⟩) 64 64)).run Try.prog W1 = .ok (.string (zerosB 64)) W1 := conv_string (P := Try.prog) W1 39 9 5 (w.heap.size + 1) 64 64 _ Try.underlying39 Try.underlying5 Try.underlying9 hrm (by simp)
  clear hmk hrm hbm r0 hi hz0 hz1 hz2 B0
  obtain ⟨c0, c1, c2, c3, c4, c5⟩ := six_cells r1
  rcases hok with ⟨rfl, rfl, hT⟩ | ⟨rfl, rfl⟩
  all_goals
    go_enter Try.func8, Try.ntmps8
    go_wp2_with fail
    refine (HE.out _ B1).mono ?_
    rintro e w2 ⟨rfl, hb2⟩
    clear c0 c1 c2 c3 c4 c5
    have B2 := below_chain B1 hb2 B1.size
    have r2 := r1.below hb2 r1.lt
    obtain ⟨c0, c1, c2, c3, c4, c5⟩ := six_cells r2
    go_wp2_with fail
    refine (HS.out _ B2).mono ?_
    rintro e w3 ⟨rfl, hb3⟩
    clear c0 c1 c2 c3 c4 c5
    have B3 := below_chain B2 hb3 B2.size
    have r3 := r2.below hb3 r2.lt
    obtain ⟨c0, c1, c2, c3, c4, c5⟩ := six_cells r3
    go_wp2_with fail
    refine (HK.out _ B3).mono ?_
    rintro e w4 ⟨rfl, hb4⟩
    clear c0 c1 c2 c3 c4 c5
    have B4 := below_chain B3 hb4 B3.size
    go_wp2_with fail
    refine (HA.out _).mono ?_
    rintro e w5 ⟨rfl, hb5⟩
    have B5 := below_chain B4 hb5 B4.size
    go_wp2_with fail
    go_ret
    exact ⟨rfl, B5⟩

theorem free_ok {x : Ino} (hk : x.k = 0) : x.ok = sameI x Ino.zero := by
  rw [Bool.eq_iff_iff, sameI_iff, Ino.ok_iff]
  constructor
  · rintro (⟨h1, h2, h3, h4, h5, h6⟩ | ⟨h1, _⟩)
    · exact Ino.ext h1 h2 h3 h4 h5 h6
    · omega
  · rintro rfl
    exact .inl ⟨rfl, rfl, rfl, rfl, rfl, rfl⟩

theorem walk_inodesFree (w : World) (x : Ino) (a : Option Addr) (cap : Nat) (_ : i64B x.k) (_ : i64B x.l) (_ : i64B x.s) (_ : i64B x.d) (_ : x.es.length ≤ cap) (_ : cap ≤ maxLen) (hE : EntS w a x.es) (_ : ∀ y ∈ x.es, i64B y.1 ∧ i64B y.2.1 ∧ i64B y.2.2) :
    Calls Try.prog 8 #[inoV x a cap] w fun e w' => e = .returned (.bool true) ∧ Below w.heap.size w w' := by
  by_cases hn : x.es.length ≤ 1000
  · obtain ⟨y, hy⟩ : ∃ y : Ino, y = ⟨0, x.p, x.l, x.s, x.d, x.es⟩ := ⟨_, rfl⟩
    have hyk : y.k = 0 := by rw [hy]
    have hye : y.es = x.es := by rw [hy]
    have hE' : EntS w a y.es := by rw [hye]; exact hE
    have HK : Hid (∀ W, Below w.heap.size w W → Calls Try.prog 19 #[iv 0 x.p x.l x.s x.d a x.es.length cap] W fun e w' => e = .returned (.bool y.ok) ∧ Below W.heap.size W w') := by
      intro W hb
      have := icheck_any y a cap W (by rw [hye]; omega) (hE'.below hb (Nat.le_refl _))
      rw [hy] at this ⊢; exact this
    have HS : Hid (∀ W, Below w.heap.size w W → Calls Try.prog 21 #[iv 0 x.p x.l x.s x.d a x.es.length cap, iv 0 false 0 0 0 none 0 0] W fun e w' => e = .returned (.bool y.ok) ∧ Below W.heap.size W w') := by
      intro W hb
      have := same11_any y Ino.zero (b := none) cap 0 W (by rw [hye]; omega) (by decide) (hE'.below hb (Nat.le_refl _)) (.inl rfl)
      rw [← free_ok hyk] at this
      rw [hy] at this ⊢; exact this
    by_cases hk : y.ok = true
    · have hz : y = Ino.zero := sameI_iff.1 ((free_ok hyk).symm.trans hk)
      refine inoFree_core w x.k x.p x.l x.s x.d a x.es.length cap hn (tx y.bytes) 0 y.ok (Lib.hid (fun W hb => ?_)) HK HS (.inl ⟨rfl, hk, bytes_beq.2 (by rw [hz]; exact zero_bytes)⟩)
      have := ienc_yes y a cap W (hE'.below hb (Nat.le_refl _)) hk
      rw [hy] at this ⊢; exact this
    · have hk' : y.ok = false := by simpa using hk
      refine inoFree_core w x.k x.p x.l x.s x.d a x.es.length cap hn ⟨#[]⟩ 2 y.ok (Lib.hid (fun W hb => ?_)) HK HS (.inr ⟨rfl, hk'⟩)
      have := ienc_no y a cap W (hE'.below hb (Nat.le_refl _)) (by rw [hye]; omega) hk'
      rw [hy] at this; exact this
  · have hn' : (1000 : Int) < (x.es.length : Int) := by omega
    clear hn
    go_enter Try.func8, Try.ntmps8
    go_wp2_with fail
    go_ret
    exact ⟨rfl, (Below.refl _ _).alloc (Nat.le_refl _) _⟩

/-! ### the frame (printed by mklaw.py) -/

set_option maxRecDepth 100000 in
theorem lifted_inodesFree (os : Os) (started : os.Started) (H : Type) (enc : TypeId × Value → H) :
    ReturnsInHanded {} Try.checked os 8 .any (Rows.inodesFreeSpec.pre6 enc Try.prog Try.f8 Rows.inodesFreeRow.domain false) (Rows.inodesFreeSpec.post enc Try.prog Try.f8 false true false false) := by
  refine law_step (C := Try.checked) (tb := 4) (by kernel_rfl) (by kernel_rfl) started (by kernel_rfl) Try.func8 rfl Try.underlying4 rfl ?_ ?_
    (ChangeSpec.witness6 (enc := enc) (C := Try.checked) false ⟨#[], #[.agg #[.int .i64 0, .bool false, .int .i64 0, .int .i64 0, .int .i64 0, .slice none 0 0]], []⟩ 8 (by kernel_rfl) (by kernel_rfl) (by kernel_rfl) (by kernel_rfl)) ?_
  · intro ds hl
    match ds, hl with
    | [d0], _ => rfl
  · intro t ht
    rw [show Try.f8.params.toList = [24] from by rw [Try.params8]] at ht
    simp only [List.mem_cons, List.not_mem_nil, or_false] at ht
    rcases ht with rfl
    · exact ⟨by kernel_rfl, of_decide_eq_true (by kernel_rfl)⟩
  · intro W args hG
    rw [show Try.f8.params.toList = [24] from by rw [Try.params8]] at hG
    obtain ⟨v0, rfl, g0⟩ := gotAll_args1 hG
    obtain ⟨k0, p0, l0, s0, d0, a0, cap0, es0, rfl, bk0, bl0, bs0, bd0, hc0, hm0, hE0, hz0⟩ := got_ino g0
    exact walk_inodesFree W ⟨k0, p0, l0, s0, d0, es0⟩ a0 cap0 bk0 bl0 bs0 bd0 hc0 hm0 hE0 hz0

theorem inodesFree_over : Rows.inodesFreeRow.holds Try.pinned (OpenSpec.ofChange Rows.inodesFreeSpec) :=
  OpenClaim.holds_of_wide 8 Try.f8 rfl rfl rfl rfl rfl rfl rfl ⟨rfl, rfl, rfl, rfl, rfl⟩ rfl rfl rfl rfl rfl (by kernel_rfl) Try.func8 (by kernel_rfl)
    (of_decide_eq_true (by kernel_rfl)) (by unfold Func.isWrapper; first | (rw [if_pos (by decide +kernel)]; kernel_rfl) | (rw [if_neg (by decide +kernel)]; exact ⟨rfl, rfl⟩))
    (fun os started H enc _ => lifted_inodesFree os started H enc)

theorem inodesFree_holds : Rows.InodesFreeSaid := inodesFree_over
#print axioms inodesFree_holds

end Go.Proofs.Ytdeemaafngehoaa
