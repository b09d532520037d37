/- For every input the law glissadelaw11.InodesBack returns true. -/
import Derived.Test.YtdeemaafngehoaaInoWalks5
import Derived.Test.YtdeemaafngehoaaInoAlive
import Derived.Test.YtdeemaafngehoaaFrame
set_option linter.unusedVariables false
set_option linter.unusedSimpArgs false
set_option maxRecDepth 100000
namespace Go.Proofs.Ytdeemaafngehoaa
open Go.RowKit Go.Joins

set_option maxHeartbeats 4000000 in
theorem inoBack_core (w : World) (x : Ino) (a : Option Addr) (cap : Nat) (hE : EntS w a x.es) (hn1 : x.es.length ≤ 1000) (s T : ByteArray) (e0 : Int) (ok : Bool) (y : Ino) (hy1 : y.es.length ≤ 1000) (d0 : Int) (U : ByteArray)
    (HE : Hid (∀ W, Below w.heap.size w W → Calls Try.prog 17 #[inoV x a cap] W fun e w' => e = .returned (.tuple #[.string T, .int .i64 e0]) ∧ Below W.heap.size W w'))
    (hok : e0 = 0 ∧ ok = true ∧ T.size = 64 ∨ e0 = 2 ∧ ok = false)
    (HK : Hid (∀ W, Below w.heap.size w W → Calls Try.prog 19 #[inoV x a cap] W fun e w' => e = .returned (.bool ok) ∧ Below W.heap.size W w'))
    (HT : Hid (e0 = 0 → ∀ W, Calls Try.prog 23 #[.string T] W fun e w' => ∃ a cap, e = .returned (.tuple #[inoV x a cap, .int .i64 0]) ∧ NewE w' W.heap.size a x.es ∧ Below W.heap.size W w'))
    (HD : Hid (∀ W, Calls Try.prog 23 #[.string s] W fun e w' => ∃ a cap, e = .returned (.tuple #[inoV y a cap, .int .i64 d0]) ∧ NewE w' W.heap.size a y.es ∧ Below W.heap.size W w'))
    (hd : d0 = 80 ∧ y = Ino.zero ∨ d0 = 0 ∧ y.ok = true ∧ (U.toList == s.toList) = true ∧ U = tx y.bytes) :
    Calls Try.prog 5 #[inoV x a cap, .string s] w fun e w' => e = .returned (.bool true) ∧ Below w.heap.size w w' := by
  have HA := Lib.hid alive11
  have HS : Hid (∀ a' b c1 c2 W, EntS W a' x.es → EntS W b x.es → Calls Try.prog 21 #[inoV x a' c1, inoV x b c2] W fun e w' => e = .returned (.bool true) ∧ Below W.heap.size W w') := by
    intro a' b c1 c2 W hE hF
    have := same11_any x x c1 c2 W (by omega) (by omega) hE hF
    rw [sameI_refl] at this
    exact this
  obtain ⟨k, p, l, sz, d, es⟩ := x
  obtain ⟨k', p', l', sz', d', fs⟩ := y
  have B0 : Below w.heap.size w (w.alloc (.cells #[.int .i64 k, .bool p, .int .i64 l, .int .i64 sz, .int .i64 d, .slice a es.length cap] 24)) := (Below.refl w.heap.size w).alloc (Nat.le_refl _) _
  have r0 := rowAt_alloc w #[.int .i64 k, .bool p, .int .i64 l, .int .i64 sz, .int .i64 d, .slice a es.length cap] 24
  have hn2 : ¬ (1000 : Int) < (es.length : Int) := by have : es.length ≤ 1000 := hn1; omega
  have hE' : EntS w a es := hE
  clear hE hn1
  have hy2 : fs.length ≤ 1000 := hy1
  clear hy1
  have HD' : Hid (∀ W, Calls Try.prog 23 #[.string s] W fun e w' => ∃ a cap, e = .returned (.tuple #[iv k' p' l' sz' d' a fs.length cap, .int .i64 d0]) ∧ NewE w' W.heap.size a fs ∧ Below W.heap.size W w') := HD
  clear HD
  -- the second half, from any world on
  have HH := Lib.hid hd
  clear hd
  rcases hok with ⟨rfl, rfl, hTs⟩ | ⟨rfl, rfl⟩
  · have HT' := Lib.hid (HT.out rfl)
    clear HT
    have hts : ((T.size : Int) != 64) = false := by rw [hTs]; rfl
    clear hTs
    go_enter Try.func5, Try.ntmps5
    go_wp2_with fail
    refine (HE.out _ B0).mono ?_
    rintro e w1 ⟨rfl, hb1⟩
    have B1 := below_chain B0 hb1 B0.size
    have r1 := r0.below hb1 r0.lt
    obtain ⟨c0, c1, c2, c3, c4, c5⟩ := six_cells r1
    go_wp2_with fail
    refine (HK.out _ B1).mono ?_
    rintro e w2 ⟨rfl, hb2⟩
    clear c0 c1 c2 c3 c4 c5
    have B2 := below_chain B1 hb2 B1.size
    have r2 := r1.below hb2 r1.lt
    clear r1 r0 B0 B1 hb1 hb2
    go_wp2_with fail
    refine (HT'.out _).mono ?_
    rintro e w3 ⟨a3, cap3, rfl, hn3, hb3⟩
    have B3 := below_chain B2 hb3 B2.size
    have r3 := r2.below hb3 r2.lt
    have B4 := B3.alloc B3.size (.cells #[.int .i64 k, .bool p, .int .i64 l, .int .i64 sz, .int .i64 d, .slice a3 es.length cap3] 24)
    have n4 := hn3.ents.alloc (.cells #[.int .i64 k, .bool p, .int .i64 l, .int .i64 sz, .int .i64 d, .slice a3 es.length cap3] 24)
    have m4 := hE'.below B4 (Nat.le_refl _)
    obtain ⟨c0, c1, c2, c3, c4, c5⟩ := six_cells r3
    have l3 := r3.lt
    go_wp2_with fail
    refine (HS.out _ _ _ _ _ m4 n4).mono ?_
    rintro e w5 ⟨rfl, hb5⟩
    have B5 := below_chain B4 hb5 B4.size
    clear c0 c1 c2 c3 c4 c5 r3 r2 n4 m4 hb5 hb3 hn3 B4 B3 B2 l3 HE HK HT' HS
    go_wp2_with fail
    refine (HD'.out _).mono ?_
    rintro e w6 ⟨a6, cap6, rfl, hn6, hb6⟩
    have B6 := below_chain B5 hb6 B5.size
    have B7 := B6.alloc B6.size (.cells #[.int .i64 k', .bool p', .int .i64 l', .int .i64 sz', .int .i64 d', .slice a6 fs.length cap6] 24)
    have r7 := rowAt_alloc w6 #[.int .i64 k', .bool p', .int .i64 l', .int .i64 sz', .int .i64 d', .slice a6 fs.length cap6] 24
    have n7 := hn6.ents.alloc (.cells #[.int .i64 k', .bool p', .int .i64 l', .int .i64 sz', .int .i64 d', .slice a6 fs.length cap6] 24)
    rcases HH.out with ⟨rfl, hz⟩ | ⟨rfl, hk, hu, hU⟩
    · have e1 := congrArg Ino.k hz
      have e2 := congrArg Ino.p hz
      have e3 := congrArg Ino.l hz
      have e4 := congrArg Ino.s hz
      have e5 := congrArg Ino.d hz
      have e6 := congrArg Ino.es hz
      simp only [Ino.zero] at e1 e2 e3 e4 e5 e6
      subst e1 e2 e3 e4 e5 e6
      clear hz
      have HZ : Hid (∀ a b c1 c2 W, Calls Try.prog 21 #[iv 0 false 0 0 0 a 0 c1, iv 0 false 0 0 0 b 0 c2] W fun e w' => e = .returned (.bool true) ∧ Below W.heap.size W w') := by
        intro a b c1 c2 W
        have := same11_any Ino.zero Ino.zero (a := a) (b := b) c1 c2 W (by decide) (by decide) (.inl rfl) (.inl rfl)
        rw [sameI_refl] at this
        exact this
      go_wp2_with fail
      refine (HZ.out _ _ _ _ _).mono ?_
      rintro e w8 ⟨rfl, hb8⟩
      have B8 := below_chain B7 hb8 B7.size
      go_wp2_with fail
      refine (HA.out _).mono ?_
      rintro e w9 ⟨rfl, hb9⟩
      have B9 := below_chain B8 hb9 B8.size
      go_wp2_with fail
      go_ret
      exact ⟨rfl, B9⟩
    · have HU := Lib.hid (fun a cap W hE => by have := ienc_yes ⟨k', p', l', sz', d', fs⟩ a cap W hE hk; rw [← hU] at this; exact this : ∀ a cap W, EntS W a fs → Calls Try.prog 17 #[iv k' p' l' sz' d' a fs.length cap] W fun e w' => e = .returned (.tuple #[.string U, .int .i64 0]) ∧ Below W.heap.size W w')
      have HC := Lib.hid (fun a cap W hE => by have := icheck_any ⟨k', p', l', sz', d', fs⟩ a cap W (by show fs.length ≤ 100000; omega) hE; rw [hk] at this; exact this : ∀ a cap W, EntS W a fs → Calls Try.prog 19 #[iv k' p' l' sz' d' a fs.length cap] W fun e w' => e = .returned (.bool true) ∧ Below W.heap.size W w')
      clear hU hk
      go_wp2_with fail
      refine (HU.out _ _ _ n7).mono ?_
      rintro e w8 ⟨rfl, hb8⟩
      have B8 := below_chain B7 hb8 B7.size
      have r8 := r7.below hb8 r7.lt
      have n8 := n7.below hb8 (Nat.le_refl _)
      obtain ⟨c0, c1, c2, c3, c4, c5⟩ := six_cells r8
      go_wp2_with fail
      refine (HC.out _ _ _ n8).mono ?_
      rintro e w9 ⟨rfl, hb9⟩
      have B9 := below_chain B8 hb9 B8.size
      clear c0 c1 c2 c3 c4 c5
      go_wp2_with fail
      refine (HA.out _).mono ?_
      rintro e w10 ⟨rfl, hb10⟩
      have B10 := below_chain B9 hb10 B9.size
      go_wp2_with fail
      go_ret
      exact ⟨rfl, B10⟩
  · clear HT HS
    go_enter Try.func5, Try.ntmps5
    go_wp2_with fail
    refine (HE.out _ B0).mono ?_
    rintro e w1 ⟨rfl, hb1⟩
    have B1 := below_chain B0 hb1 B0.size
    have r1 := r0.below hb1 r0.lt
    obtain ⟨c0, c1, c2, c3, c4, c5⟩ := six_cells r1
    go_wp2_with fail
    refine (HK.out _ B1).mono ?_
    rintro e w2 ⟨rfl, hb2⟩
    clear c0 c1 c2 c3 c4 c5
    have B5 := below_chain B1 hb2 B1.size
    clear r1 r0 B0 B1 hb1 hb2 HE HK
    go_wp2_with fail
    refine (HD'.out _).mono ?_
    rintro e w6 ⟨a6, cap6, rfl, hn6, hb6⟩
    have B6 := below_chain B5 hb6 B5.size
    have B7 := B6.alloc B6.size (.cells #[.int .i64 k', .bool p', .int .i64 l', .int .i64 sz', .int .i64 d', .slice a6 fs.length cap6] 24)
    have r7 := rowAt_alloc w6 #[.int .i64 k', .bool p', .int .i64 l', .int .i64 sz', .int .i64 d', .slice a6 fs.length cap6] 24
    have n7 := hn6.ents.alloc (.cells #[.int .i64 k', .bool p', .int .i64 l', .int .i64 sz', .int .i64 d', .slice a6 fs.length cap6] 24)
    rcases HH.out with ⟨rfl, hz⟩ | ⟨rfl, hk, hu, hU⟩
    · have e1 := congrArg Ino.k hz
      have e2 := congrArg Ino.p hz
      have e3 := congrArg Ino.l hz
      have e4 := congrArg Ino.s hz
      have e5 := congrArg Ino.d hz
      have e6 := congrArg Ino.es hz
      simp only [Ino.zero] at e1 e2 e3 e4 e5 e6
      subst e1 e2 e3 e4 e5 e6
      clear hz
      have HZ : Hid (∀ a b c1 c2 W, Calls Try.prog 21 #[iv 0 false 0 0 0 a 0 c1, iv 0 false 0 0 0 b 0 c2] W fun e w' => e = .returned (.bool true) ∧ Below W.heap.size W w') := by
        intro a b c1 c2 W
        have := same11_any Ino.zero Ino.zero (a := a) (b := b) c1 c2 W (by decide) (by decide) (.inl rfl) (.inl rfl)
        rw [sameI_refl] at this
        exact this
      go_wp2_with fail
      refine (HZ.out _ _ _ _ _).mono ?_
      rintro e w8 ⟨rfl, hb8⟩
      have B8 := below_chain B7 hb8 B7.size
      go_wp2_with fail
      refine (HA.out _).mono ?_
      rintro e w9 ⟨rfl, hb9⟩
      have B9 := below_chain B8 hb9 B8.size
      go_wp2_with fail
      go_ret
      exact ⟨rfl, B9⟩
    · have HU := Lib.hid (fun a cap W hE => by have := ienc_yes ⟨k', p', l', sz', d', fs⟩ a cap W hE hk; rw [← hU] at this; exact this : ∀ a cap W, EntS W a fs → Calls Try.prog 17 #[iv k' p' l' sz' d' a fs.length cap] W fun e w' => e = .returned (.tuple #[.string U, .int .i64 0]) ∧ Below W.heap.size W w')
      have HC := Lib.hid (fun a cap W hE => by have := icheck_any ⟨k', p', l', sz', d', fs⟩ a cap W (by show fs.length ≤ 100000; omega) hE; rw [hk] at this; exact this : ∀ a cap W, EntS W a fs → Calls Try.prog 19 #[iv k' p' l' sz' d' a fs.length cap] W fun e w' => e = .returned (.bool true) ∧ Below W.heap.size W w')
      clear hU hk
      go_wp2_with fail
      refine (HU.out _ _ _ n7).mono ?_
      rintro e w8 ⟨rfl, hb8⟩
      have B8 := below_chain B7 hb8 B7.size
      have r8 := r7.below hb8 r7.lt
      have n8 := n7.below hb8 (Nat.le_refl _)
      obtain ⟨c0, c1, c2, c3, c4, c5⟩ := six_cells r8
      go_wp2_with fail
      refine (HC.out _ _ _ n8).mono ?_
      rintro e w9 ⟨rfl, hb9⟩
      have B9 := below_chain B8 hb9 B8.size
      clear c0 c1 c2 c3 c4 c5
      go_wp2_with fail
      refine (HA.out _).mono ?_
      rintro e w10 ⟨rfl, hb10⟩
      have B10 := below_chain B9 hb10 B9.size
      go_wp2_with fail
      go_ret
      exact ⟨rfl, B10⟩

theorem walk_inodesBack (w : World) (x : Ino) (a : Option Addr) (cap : Nat) (_ : i64B x.k) (_ : i64B x.l) (_ : i64B x.s) (_ : i64B x.d) (_ : x.es.length ≤ cap) (_ : cap ≤ maxLen) (hE : EntS w a x.es) (_ : ∀ y ∈ x.es, i64B y.1 ∧ i64B y.2.1 ∧ i64B y.2.2) (s : ByteArray) (b : s.size ≤ 140737488351232) :
    Calls Try.prog 5 #[inoV x a cap, .string s] w fun e w' => e = .returned (.bool true) ∧ Below w.heap.size w w' := by
  by_cases hn : x.es.length ≤ 1000
  · have HK := Lib.hid (fun W (hb : Below w.heap.size w W) => icheck_any x a cap W (by omega) (hE.below hb (Nat.le_refl _)))
    have hs := size_le_maxLen b
    have hz : ∀ W (e : Ending) (w' : World), DecN W e w' → ∃ a cap, e = .returned (.tuple #[inoV Ino.zero a cap, .int .i64 80]) ∧ NewE w' W.heap.size a Ino.zero.es ∧ Below W.heap.size W w' := fun W e w' hd => ⟨none, 0, hd.1, .inl rfl, hd.2⟩
    have hp : (inoP s).es.length ≤ 1000 := by
      show (entsOf _ _).length ≤ 1000
      rw [entsOf_length]; omega
    by_cases hk : x.ok = true
    · have H1 := Lib.hid (fun W (hb : Below w.heap.size w W) => ienc_yes x a cap W (hE.below hb (Nat.le_refl _)) hk)
      have hT : (tx x.bytes).size = 64 := by rw [tx_size, Ino.bytes_length x (Ino.ok_small hk).2.2.2.2.2.2.2.2.1]
      have HT := Lib.hid (fun (_ : (0 : Int) = 0) W => by have := idec_yes (tx x.bytes) W (inoDec_bytes hk); rw [inoP_bytes hk] at this; exact this)
      by_cases h : inoDec s = true
      · exact inoBack_core w x a cap hE hn s _ 0 x.ok (inoP s) hp 0 (tx (inoP s).bytes) H1 (.inl ⟨rfl, hk, hT⟩) HK HT (Lib.hid (fun W => idec_yes s W h)) (.inr ⟨rfl, (inoDec_ok h).1, bytes_beq.2 (inoDec_ok h).2, rfl⟩)
      · exact inoBack_core w x a cap hE hn s _ 0 x.ok Ino.zero (by decide) 80 ⟨#[]⟩ H1 (.inl ⟨rfl, hk, hT⟩) HK HT (Lib.hid (fun W => (idec_no s W hs (by simpa using h)).mono (hz W))) (.inl ⟨rfl, rfl⟩)
    · have hk' : x.ok = false := by simpa using hk
      have H1 := Lib.hid (fun W (hb : Below w.heap.size w W) => ienc_no x a cap W (hE.below hb (Nat.le_refl _)) (by omega) hk')
      by_cases h : inoDec s = true
      · exact inoBack_core w x a cap hE hn s _ 2 x.ok (inoP s) hp 0 (tx (inoP s).bytes) H1 (.inr ⟨rfl, hk'⟩) HK (Lib.hid (fun h => by omega)) (Lib.hid (fun W => idec_yes s W h)) (.inr ⟨rfl, (inoDec_ok h).1, bytes_beq.2 (inoDec_ok h).2, rfl⟩)
      · exact inoBack_core w x a cap hE hn s _ 2 x.ok Ino.zero (by decide) 80 ⟨#[]⟩ H1 (.inr ⟨rfl, hk'⟩) HK (Lib.hid (fun h => by omega)) (Lib.hid (fun W => (idec_no s W hs (by simpa using h)).mono (hz W))) (.inl ⟨rfl, rfl⟩)
  · have hn' : (1000 : Int) < (x.es.length : Int) := by omega
    clear hn
    go_enter Try.func5, Try.ntmps5
    go_wp2_with fail
    go_ret
    exact ⟨rfl, (Below.refl _ _).alloc (Nat.le_refl _) _⟩

/-! ### the frame (printed by mklaw.py) -/

set_option maxRecDepth 100000 in
theorem lifted_inodesBack (os : Os) (started : os.Started) (H : Type) (enc : TypeId × Value → H) :
    ReturnsInHanded {} Try.checked os 5 .any (Rows.inodesBackSpec.pre6 enc Try.prog Try.f5 Rows.inodesBackRow.domain false) (Rows.inodesBackSpec.post enc Try.prog Try.f5 false true false false) := by
  refine law_step (C := Try.checked) (tb := 4) (by kernel_rfl) (by kernel_rfl) started (by kernel_rfl) Try.func5 rfl Try.underlying4 rfl ?_ ?_
    (ChangeSpec.witness6 (enc := enc) (C := Try.checked) false ⟨#[], #[.agg #[.int .i64 0, .bool false, .int .i64 0, .int .i64 0, .int .i64 0, .slice none 0 0], .string ByteArray.empty], []⟩ 8 (by kernel_rfl) (by kernel_rfl) (by kernel_rfl) (by kernel_rfl)) ?_
  · intro ds hl
    match ds, hl with
    | [d0, d1], _ => rfl
  · intro t ht
    rw [show Try.f5.params.toList = [24, 9] from by rw [Try.params5]] at ht
    simp only [List.mem_cons, List.not_mem_nil, or_false] at ht
    rcases ht with rfl | rfl
    · exact ⟨by kernel_rfl, of_decide_eq_true (by kernel_rfl)⟩
    · exact ⟨by kernel_rfl, of_decide_eq_true (by kernel_rfl)⟩
  · intro W args hG
    rw [show Try.f5.params.toList = [24, 9] from by rw [Try.params5]] at hG
    obtain ⟨v0, v1, rfl, g0, g1⟩ := gotAll_args2 hG
    obtain ⟨k0, p0, l0, s0, d0, a0, cap0, es0, rfl, bk0, bl0, bs0, bd0, hc0, hm0, hE0, hz0⟩ := got_ino g0
    obtain ⟨a1, rfl, b1⟩ := got_string Try.underlying9 g1
    exact walk_inodesBack W ⟨k0, p0, l0, s0, d0, es0⟩ a0 cap0 bk0 bl0 bs0 bd0 hc0 hm0 hE0 hz0 a1 b1

theorem inodesBack_over : Rows.inodesBackRow.holds Try.pinned (OpenSpec.ofChange Rows.inodesBackSpec) :=
  OpenClaim.holds_of_wide 5 Try.f5 rfl rfl rfl rfl rfl rfl rfl ⟨rfl, rfl, rfl, rfl, rfl⟩ rfl rfl rfl rfl rfl (by kernel_rfl) Try.func5 (by kernel_rfl)
    (of_decide_eq_true (by kernel_rfl)) (by unfold Func.isWrapper; first | (rw [if_pos (by decide +kernel)]; kernel_rfl) | (rw [if_neg (by decide +kernel)]; exact ⟨rfl, rfl⟩))
    (fun os started H enc _ => lifted_inodesBack os started H enc)

theorem inodesBack_holds : Rows.InodesBackSaid := inodesBack_over
#print axioms inodesBack_holds

end Go.Proofs.Ytdeemaafngehoaa
