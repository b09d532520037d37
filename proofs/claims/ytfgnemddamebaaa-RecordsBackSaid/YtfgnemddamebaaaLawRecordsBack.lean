/- For every input the law glissadelaw08.RecordsBack returns true. -/
import Derived.Test.YtfgnemddamebaaaRecAlive
import Derived.Test.YtfgnemddamebaaaGotRec
import Derived.Test.YtfgnemddamebaaaRecSame
import Derived.Test.YtfgnemddamebaaaFrame
set_option linter.unusedVariables false
set_option linter.unusedSimpArgs false
set_option maxRecDepth 100000
namespace Go.Proofs.Ytfgnemddamebaaa
open Go.RowKit Go.Joins

set_option maxHeartbeats 4000000 in
theorem recBack_11 (w : World) (x : Rc) (ah : Option Addr) (ch : Nat) (am : Option Addr) (cm : Nat) (hn9 : x.hs.length ≤ 100000) (hm9 : x.ms.length ≤ 100000) (hn : (x.hs.length : Int) ≤ 1000) (hm : (x.ms.length : Int) ≤ 1000) (hS : Hid (RcS w x ah am)) (blk : ByteArray) (S : ByteArray) (hS8 : S.size = 128)
    (HE1 : Hid (∀ W, Below w.heap.size w W → Calls Try.prog 11 #[rcV x ah ch am cm] W fun e w' => e = .returned (.tuple #[.string S, .int .i64 0]) ∧ Below W.heap.size W w'))
    (HD1 : Hid (∀ W, Calls Try.prog 15 #[.string S] W (DecP8 x W))) (y : Rc)
    (HD2 : Hid (∀ W, Calls Try.prog 15 #[.string blk] W (DecP8 y W)))
    (HE2 : Hid (∀ a c b d W, RcS W y a b → Calls Try.prog 11 #[rcV y a c b d] W fun e w' => e = .returned (.tuple #[.string blk, .int .i64 0]) ∧ Below W.heap.size W w')) :
    Calls Try.prog 6 #[rcV x ah ch am cm, .string blk] w fun e w' => e = .returned (.bool true) ∧ Below w.heap.size w w' := by
  have t1 : (blk.toList == blk.toList) = true := by simp
  have z0 := rowAt_alloc w (rcells x.k x.q x.at_ ah x.hs.length ch am x.ms.length cm x.sum) 27
  have Y : Below w.heap.size w (w.alloc (.cells (rcells x.k x.q x.at_ ah x.hs.length ch am x.ms.length cm x.sum) 27)) := by go_grown
  go_enter Try.func6, Try.ntmps6
  go_wp2_with fail
  refine (HE1.out _ Y).mono ?_
  rintro e w1 ⟨rfl, hb1⟩
  have r1 := z0.below hb1 z0.lt
  have B1 := below_chain Y hb1 Y.size
  clear z0 Y hb1
  go_wp2_with fail
  refine (HD1.out _).mono ?_
  rintro e w2 ⟨ah2, ch2, am2, cm2, rfl, n2, m2, hb2⟩
  have B2 := below_chain B1 hb2 B1.size
  have r2 := r1.below hb2 r1.lt
  have NH := Lib.hid n2
  have NM := Lib.hid m2
  have B2a := B2.alloc B2.size (.cells (rcells x.k x.q x.at_ ah2 x.hs.length ch2 am2 x.ms.length cm2 x.sum) 27)
  have r2a := r2.alloc (.cells (rcells x.k x.q x.at_ ah2 x.hs.length ch2 am2 x.ms.length cm2 x.sum) 27)
  have t2a := rowAt_alloc w2 (rcells x.k x.q x.at_ ah2 x.hs.length ch2 am2 x.ms.length cm2 x.sum) 27
  have HSS := Lib.hid (hS.out.below B2a (Nat.le_refl _))
  have HST := Lib.hid (show RcS (w2.alloc (.cells (rcells x.k x.q x.at_ ah2 x.hs.length ch2 am2 x.ms.length cm2 x.sum) 27)) x ah2 am2 from ⟨NH.out.vals.alloc _, NM.out.vals.alloc _⟩)
  have L2 := r2.lt
  obtain ⟨c0, c1, c2, c3, c4, c5⟩ := sixr_cells r2
  clear n2 m2 hb2 B2 r1 B1
  go_wp2_with fail
  refine (same8_yes x ah2 ah ch2 ch am2 am cm2 cm _ hn9 hm9 HST.out HSS.out).mono ?_
  rintro e w3 ⟨rfl, hb3⟩
  have B3 := below_chain B2a hb3 B2a.size
  clear c0 c1 c2 c3 c4 c5 r2 r2a t2a HSS HST NH NM L2 B2a hb3
  go_wp2_with fail
  refine (HD2.out _).mono ?_
  rintro e w4 ⟨ah4, ch4, am4, cm4, rfl, n4, m4, hb4⟩
  have B4 := below_chain B3 hb4 B3.size
  have B4a := B4.alloc B4.size (.cells (rcells y.k y.q y.at_ ah4 y.hs.length ch4 am4 y.ms.length cm4 y.sum) 27)
  have HY := Lib.hid (show RcS (w4.alloc (.cells (rcells y.k y.q y.at_ ah4 y.hs.length ch4 am4 y.ms.length cm4 y.sum) 27)) y ah4 am4 from ⟨n4.vals.alloc _, m4.vals.alloc _⟩)
  clear n4 m4
  go_wp2_with fail
  refine (HE2.out _ _ _ _ _ HY.out).mono ?_
  rintro e w5 ⟨rfl, hb5⟩
  have B5 := below_chain B4a hb5 B4a.size
  clear HY
  go_wp2_with fail
  refine (alive08 _).mono ?_
  rintro e w6 ⟨rfl, hb6⟩
  have B6 := below_chain B5 hb6 B5.size
  go_wp2_with fail
  go_ret
  exact ⟨rfl, B6⟩

set_option maxHeartbeats 4000000 in
theorem recBack_10 (w : World) (x : Rc) (ah : Option Addr) (ch : Nat) (am : Option Addr) (cm : Nat) (hn9 : x.hs.length ≤ 100000) (hm9 : x.ms.length ≤ 100000) (hn : (x.hs.length : Int) ≤ 1000) (hm : (x.ms.length : Int) ≤ 1000) (hS : Hid (RcS w x ah am)) (blk : ByteArray) (S : ByteArray) (hS8 : S.size = 128)
    (HE1 : Hid (∀ W, Below w.heap.size w W → Calls Try.prog 11 #[rcV x ah ch am cm] W fun e w' => e = .returned (.tuple #[.string S, .int .i64 0]) ∧ Below W.heap.size W w'))
    (HD1 : Hid (∀ W, Calls Try.prog 15 #[.string S] W (DecP8 x W))) 
    (HD2 : Hid (∀ W, Calls Try.prog 15 #[.string blk] W (DecN8 W))) :
    Calls Try.prog 6 #[rcV x ah ch am cm, .string blk] w fun e w' => e = .returned (.bool true) ∧ Below w.heap.size w w' := by
  have t1 : (blk.toList == blk.toList) = true := by simp
  have z0 := rowAt_alloc w (rcells x.k x.q x.at_ ah x.hs.length ch am x.ms.length cm x.sum) 27
  have Y : Below w.heap.size w (w.alloc (.cells (rcells x.k x.q x.at_ ah x.hs.length ch am x.ms.length cm x.sum) 27)) := by go_grown
  go_enter Try.func6, Try.ntmps6
  go_wp2_with fail
  refine (HE1.out _ Y).mono ?_
  rintro e w1 ⟨rfl, hb1⟩
  have r1 := z0.below hb1 z0.lt
  have B1 := below_chain Y hb1 Y.size
  clear z0 Y hb1
  go_wp2_with fail
  refine (HD1.out _).mono ?_
  rintro e w2 ⟨ah2, ch2, am2, cm2, rfl, n2, m2, hb2⟩
  have B2 := below_chain B1 hb2 B1.size
  have r2 := r1.below hb2 r1.lt
  have NH := Lib.hid n2
  have NM := Lib.hid m2
  have B2a := B2.alloc B2.size (.cells (rcells x.k x.q x.at_ ah2 x.hs.length ch2 am2 x.ms.length cm2 x.sum) 27)
  have r2a := r2.alloc (.cells (rcells x.k x.q x.at_ ah2 x.hs.length ch2 am2 x.ms.length cm2 x.sum) 27)
  have t2a := rowAt_alloc w2 (rcells x.k x.q x.at_ ah2 x.hs.length ch2 am2 x.ms.length cm2 x.sum) 27
  have HSS := Lib.hid (hS.out.below B2a (Nat.le_refl _))
  have HST := Lib.hid (show RcS (w2.alloc (.cells (rcells x.k x.q x.at_ ah2 x.hs.length ch2 am2 x.ms.length cm2 x.sum) 27)) x ah2 am2 from ⟨NH.out.vals.alloc _, NM.out.vals.alloc _⟩)
  have L2 := r2.lt
  obtain ⟨c0, c1, c2, c3, c4, c5⟩ := sixr_cells r2
  clear n2 m2 hb2 B2 r1 B1
  go_wp2_with fail
  refine (same8_yes x ah2 ah ch2 ch am2 am cm2 cm _ hn9 hm9 HST.out HSS.out).mono ?_
  rintro e w3 ⟨rfl, hb3⟩
  have B3 := below_chain B2a hb3 B2a.size
  clear c0 c1 c2 c3 c4 c5 r2 r2a t2a HSS HST NH NM L2 B2a hb3
  go_wp2_with fail
  refine (HD2.out _).mono ?_
  rintro e w4 ⟨rfl, hb4⟩
  have B4 := below_chain B3 hb4 B3.size
  have B4a := B4.alloc B4.size (.cells #[.int .i64 0, .int .u64 0, .int .i64 0, .slice none 0 0, .slice none 0 0, .int .u32 0] 27)
  go_wp2_with fail
  refine (same8_yes Rc.zero none none 0 0 none none 0 0 _ (by decide) (by decide) ⟨.inl rfl, .inl rfl⟩ ⟨.inl rfl, .inl rfl⟩).mono ?_
  rintro e w5 ⟨rfl, hb5⟩
  have B5 := below_chain B4a hb5 B4a.size
  go_wp2_with fail
  refine (alive08 _).mono ?_
  rintro e w6 ⟨rfl, hb6⟩
  have B6 := below_chain B5 hb6 B5.size
  go_wp2_with fail
  go_ret
  exact ⟨rfl, B6⟩

set_option maxHeartbeats 4000000 in
theorem recBack_01 (w : World) (x : Rc) (ah : Option Addr) (ch : Nat) (am : Option Addr) (cm : Nat) (hn9 : x.hs.length ≤ 100000) (hm9 : x.ms.length ≤ 100000) (hn : (x.hs.length : Int) ≤ 1000) (hm : (x.ms.length : Int) ≤ 1000) (hS : Hid (RcS w x ah am)) (blk : ByteArray) 
    (HE1 : Hid (∀ W, Below w.heap.size w W → Calls Try.prog 11 #[rcV x ah ch am cm] W fun e w' => e = .returned (.tuple #[.string ⟨#[]⟩, .int .i64 2]) ∧ Below W.heap.size W w')) (y : Rc)
    (HD2 : Hid (∀ W, Calls Try.prog 15 #[.string blk] W (DecP8 y W)))
    (HE2 : Hid (∀ a c b d W, RcS W y a b → Calls Try.prog 11 #[rcV y a c b d] W fun e w' => e = .returned (.tuple #[.string blk, .int .i64 0]) ∧ Below W.heap.size W w')) :
    Calls Try.prog 6 #[rcV x ah ch am cm, .string blk] w fun e w' => e = .returned (.bool true) ∧ Below w.heap.size w w' := by
  have t1 : (blk.toList == blk.toList) = true := by simp
  have z0 := rowAt_alloc w (rcells x.k x.q x.at_ ah x.hs.length ch am x.ms.length cm x.sum) 27
  have Y : Below w.heap.size w (w.alloc (.cells (rcells x.k x.q x.at_ ah x.hs.length ch am x.ms.length cm x.sum) 27)) := by go_grown
  go_enter Try.func6, Try.ntmps6
  go_wp2_with fail
  refine (HE1.out _ Y).mono ?_
  rintro e w1 ⟨rfl, hb1⟩
  have r1 := z0.below hb1 z0.lt
  have B1 := below_chain Y hb1 Y.size
  clear z0 Y hb1
  go_wp2_with fail
  have B3 := B1
  refine (HD2.out _).mono ?_
  rintro e w4 ⟨ah4, ch4, am4, cm4, rfl, n4, m4, hb4⟩
  have B4 := below_chain B3 hb4 B3.size
  have B4a := B4.alloc B4.size (.cells (rcells y.k y.q y.at_ ah4 y.hs.length ch4 am4 y.ms.length cm4 y.sum) 27)
  have HY := Lib.hid (show RcS (w4.alloc (.cells (rcells y.k y.q y.at_ ah4 y.hs.length ch4 am4 y.ms.length cm4 y.sum) 27)) y ah4 am4 from ⟨n4.vals.alloc _, m4.vals.alloc _⟩)
  clear n4 m4
  go_wp2_with fail
  refine (HE2.out _ _ _ _ _ HY.out).mono ?_
  rintro e w5 ⟨rfl, hb5⟩
  have B5 := below_chain B4a hb5 B4a.size
  clear HY
  go_wp2_with fail
  refine (alive08 _).mono ?_
  rintro e w6 ⟨rfl, hb6⟩
  have B6 := below_chain B5 hb6 B5.size
  go_wp2_with fail
  go_ret
  exact ⟨rfl, B6⟩

set_option maxHeartbeats 4000000 in
theorem recBack_00 (w : World) (x : Rc) (ah : Option Addr) (ch : Nat) (am : Option Addr) (cm : Nat) (hn9 : x.hs.length ≤ 100000) (hm9 : x.ms.length ≤ 100000) (hn : (x.hs.length : Int) ≤ 1000) (hm : (x.ms.length : Int) ≤ 1000) (hS : Hid (RcS w x ah am)) (blk : ByteArray) 
    (HE1 : Hid (∀ W, Below w.heap.size w W → Calls Try.prog 11 #[rcV x ah ch am cm] W fun e w' => e = .returned (.tuple #[.string ⟨#[]⟩, .int .i64 2]) ∧ Below W.heap.size W w')) 
    (HD2 : Hid (∀ W, Calls Try.prog 15 #[.string blk] W (DecN8 W))) :
    Calls Try.prog 6 #[rcV x ah ch am cm, .string blk] w fun e w' => e = .returned (.bool true) ∧ Below w.heap.size w w' := by
  have t1 : (blk.toList == blk.toList) = true := by simp
  have z0 := rowAt_alloc w (rcells x.k x.q x.at_ ah x.hs.length ch am x.ms.length cm x.sum) 27
  have Y : Below w.heap.size w (w.alloc (.cells (rcells x.k x.q x.at_ ah x.hs.length ch am x.ms.length cm x.sum) 27)) := by go_grown
  go_enter Try.func6, Try.ntmps6
  go_wp2_with fail
  refine (HE1.out _ Y).mono ?_
  rintro e w1 ⟨rfl, hb1⟩
  have r1 := z0.below hb1 z0.lt
  have B1 := below_chain Y hb1 Y.size
  clear z0 Y hb1
  go_wp2_with fail
  have B3 := B1
  refine (HD2.out _).mono ?_
  rintro e w4 ⟨rfl, hb4⟩
  have B4 := below_chain B3 hb4 B3.size
  have B4a := B4.alloc B4.size (.cells #[.int .i64 0, .int .u64 0, .int .i64 0, .slice none 0 0, .slice none 0 0, .int .u32 0] 27)
  go_wp2_with fail
  refine (same8_yes Rc.zero none none 0 0 none none 0 0 _ (by decide) (by decide) ⟨.inl rfl, .inl rfl⟩ ⟨.inl rfl, .inl rfl⟩).mono ?_
  rintro e w5 ⟨rfl, hb5⟩
  have B5 := below_chain B4a hb5 B4a.size
  go_wp2_with fail
  refine (alive08 _).mono ?_
  rintro e w6 ⟨rfl, hb6⟩
  have B6 := below_chain B5 hb6 B5.size
  go_wp2_with fail
  go_ret
  exact ⟨rfl, B6⟩

set_option maxHeartbeats 2000000 in
theorem recBack_great (w : World) (k q t : Int) (ah am : Option Addr) (n ch m cm : Nat) (u : Int) (blk : ByteArray) (h : (1000 : Int) < (n : Int) ∨ (n : Int) ≤ 1000 ∧ (1000 : Int) < (m : Int)) :
    Calls Try.prog 6 #[rv k q t ah n ch am m cm u, .string blk] w fun e w' => e = .returned (.bool true) ∧ Below w.heap.size w w' := by
  have Y : Below w.heap.size w (w.alloc (.cells (rcells k q t ah n ch am m cm u) 27)) := by go_grown
  rcases h with h | ⟨h1, h2⟩
  all_goals
    go_enter Try.func6, Try.ntmps6
    go_wp2_with fail
    go_ret
    exact ⟨rfl, Y⟩

theorem walk_recordsBack (w : World) (x : Rc) (ah : Option Addr) (ch : Nat) (am : Option Addr) (cm : Nat) (hf : x.fit) (hr : RcR x ah ch am cm) (hS : RcS w x ah am) (blk : ByteArray) (hb0 : blk.size ≤ 140737488351232) :
    Calls Try.prog 6 #[rcV x ah ch am cm, .string blk] w fun e w' => e = .returned (.bool true) ∧ Below w.heap.size w w' := by
  have hb := size_le_maxLen hb0
  by_cases hn : x.hs.length ≤ 1000
  · by_cases hm : x.ms.length ≤ 1000
    · have HS := Lib.hid hS
      cases hok : x.ok with
      | true =>
        have hsz : (tx x.bytes).size = 128 := by rw [tx_size, Rc.bytes_length hok]
        have HE1 := Lib.hid fun W hb => recenc_yes x ah ch am cm W hf (hS.below hb (Nat.le_refl _)) hok
        have HD1 := Lib.hid fun W => by
          have := pdec_yes (tx x.bytes) W (by rw [hsz]; decide) (recDec_bytes hok hf)
          rw [recP_bytes hok hf] at this
          exact this
        cases hd : recDec blk with
        | true =>
          obtain ⟨o1, o2⟩ := recDec_ok hd
          refine recBack_11 w x ah ch am cm (by omega) (by omega) (by omega) (by omega) HS blk _ hsz HE1 HD1 (recP blk) (Lib.hid fun W => pdec_yes blk W hb hd) (Lib.hid fun a c b d W h => ?_)
          have := recenc_yes (recP blk) a c b d W (recOf_fit _ _ _) h o1
          rw [o2] at this
          exact this
        | false => exact recBack_10 w x ah ch am cm (by omega) (by omega) (by omega) (by omega) HS blk _ hsz HE1 HD1 (Lib.hid fun W => pdec_no blk W hb hd)
      | false =>
        have HE1 := Lib.hid fun W hb => recenc_no x ah ch am cm W (by omega) (by omega) (hS.below hb (Nat.le_refl _)) hok
        cases hd : recDec blk with
        | true =>
          obtain ⟨o1, o2⟩ := recDec_ok hd
          refine recBack_01 w x ah ch am cm (by omega) (by omega) (by omega) (by omega) HS blk HE1 (recP blk) (Lib.hid fun W => pdec_yes blk W hb hd) (Lib.hid fun a c b d W h => ?_)
          have := recenc_yes (recP blk) a c b d W (recOf_fit _ _ _) h o1
          rw [o2] at this
          exact this
        | false => exact recBack_00 w x ah ch am cm (by omega) (by omega) (by omega) (by omega) HS blk HE1 (Lib.hid fun W => pdec_no blk W hb hd)
    · exact recBack_great w _ _ _ _ _ _ _ _ _ _ _ (.inr ⟨by omega, by omega⟩)
  · exact recBack_great w _ _ _ _ _ _ _ _ _ _ _ (.inl (by omega))

/-! ### the frame (printed by mklaw.py) -/

set_option maxRecDepth 100000 in
theorem lifted_recordsBack (os : Os) (started : os.Started) (H : Type) (enc : TypeId × Value → H) :
    ReturnsInHanded {} Try.checked os 6 .any (Rows.recordsBackSpec.pre6 enc Try.prog Try.f6 Rows.recordsBackRow.domain false) (Rows.recordsBackSpec.post enc Try.prog Try.f6 false true false false) := by
  refine law_step (C := Try.checked) (tb := 4) (by kernel_rfl) (by kernel_rfl) started (by kernel_rfl) Try.func6 rfl Try.underlying4 rfl ?_ ?_
    (ChangeSpec.witness6 (enc := enc) (C := Try.checked) false ⟨#[], #[.agg #[.int .i64 0, .int .u64 0, .int .i64 0, .slice none 0 0, .slice none 0 0, .int .u32 0], .string ByteArray.empty], []⟩ 8 (by kernel_rfl) (by kernel_rfl) (by kernel_rfl) (by kernel_rfl)) ?_
  · intro ds hl
    match ds, hl with
    | [d0, d1], _ => rfl
  · intro t ht
    rw [show Try.f6.params.toList = [27, 9] from by rw [Try.params6]] at ht
    simp only [List.mem_cons, List.not_mem_nil, or_false] at ht
    rcases ht with rfl | rfl
    · exact ⟨by kernel_rfl, of_decide_eq_true (by kernel_rfl)⟩
    · exact ⟨by kernel_rfl, of_decide_eq_true (by kernel_rfl)⟩
  · intro W args hG
    rw [show Try.f6.params.toList = [27, 9] from by rw [Try.params6]] at hG
    obtain ⟨v0, v1, rfl, g0, g1⟩ := gotAll_args2 hG
    obtain ⟨x0, ah0, ch0, am0, cm0, rfl, hf0, hr0, hs0⟩ := got_rec g0
    obtain ⟨a1, rfl, b1⟩ := got_string Try.underlying9 g1
    exact walk_recordsBack W x0 ah0 ch0 am0 cm0 hf0 hr0 hs0 a1 b1

theorem recordsBack_over : Rows.recordsBackRow.holds Try.pinned (OpenSpec.ofChange Rows.recordsBackSpec) :=
  OpenClaim.holds_of_wide 6 Try.f6 rfl rfl rfl rfl rfl rfl rfl ⟨rfl, rfl, rfl, rfl, rfl⟩ rfl rfl rfl rfl rfl (by kernel_rfl) Try.func6 (by kernel_rfl)
    (of_decide_eq_true (by kernel_rfl)) (by unfold Func.isWrapper; first | (rw [if_pos (by decide +kernel)]; kernel_rfl) | (rw [if_neg (by decide +kernel)]; exact ⟨rfl, rfl⟩))
    (fun os started H enc _ => lifted_recordsBack os started H enc)

theorem recordsBack_holds : Rows.RecordsBackSaid := recordsBack_over
#print axioms recordsBack_holds

end Go.Proofs.Ytfgnemddamebaaa
