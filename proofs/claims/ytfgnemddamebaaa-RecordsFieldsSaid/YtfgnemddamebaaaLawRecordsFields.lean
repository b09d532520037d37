/- For every input the law glissadelaw08.RecordsFields returns true. -/
import Derived.BigQuiet
import Derived.Deep.QuietTactic
import Derived.StillTailTactics
import Derived.Test.YtfgnemddamebaaaRecAlive
import Derived.Test.YtfgnemddamebaaaGotRec
import Derived.Test.YtfgnemddamebaaaFrame
set_option linter.unusedVariables false
set_option linter.unusedSimpArgs false
set_option maxRecDepth 100000
namespace Go.Proofs.Ytfgnemddamebaaa
open Go.RowKit Go.Joins

theorem tx_ext (l : List UInt8) (a b : Nat) : (tx l).extract a b = tx ((l.drop a).take (b - a)) := by
  apply ByteArray.ext
  apply Array.toList_inj.1
  rw [ByteArray.data_extract, Array.toList_extract]
  all_goals simp [tx, List.extract]
theorem rec_bytes3 (x : Rc) : x.bytes = (recM ++ leBytes 1 x.k.toNat) ++ leBytes 8 x.q.toNat ++ (fldB x.body ++ List.replicate (124 - x.many) 0) := by
  rw [Rc.bytes, Rc.fs, fldB_cons, fldB_cons]; simp only [List.append_assoc]
theorem le_inj8 {a b : Nat} (ha : a < 256 ^ 8) (hb : b < 256 ^ 8) : leBytes 8 a = leBytes 8 b ↔ a = b := by
  refine ⟨fun h => ?_, fun h => by rw [h]⟩
  rw [← leVal_leBytes 8 a ha, ← leVal_leBytes 8 b hb, h]

/-- a record with another number -/
def Rc.seq (x : Rc) (q : Int) : Rc := ⟨x.k, q, x.at_, x.hs, x.ms, x.sum⟩
theorem seq_ok (x : Rc) (q : Int) : (x.seq q).ok = x.ok := rfl
theorem seq_same (x : Rc) (q : Int) (h : x.ok = true) (hf : x.fit) (h0 : 0 ≤ q) (h1 : q ≤ 18446744073709551615) :
    ((tx x.bytes).toList == (tx (x.seq q).bytes).toList) = (q == x.q) ∧ (((tx x.bytes).extract 0 5).toList == ((tx (x.seq q).bytes).extract 0 5).toList) = true ∧ (((tx x.bytes).extract 13 128).toList == ((tx (x.seq q).bytes).extract 13 128).toList) = true := by
  have e8 : (256 : Nat) ^ 8 = 18446744073709551616 := by decide
  have hb1 := rec_bytes3 x
  have hb2 := rec_bytes3 (x.seq q)
  have eb : (x.seq q).body = x.body := rfl
  have em : (x.seq q).many = x.many := rfl
  have ek : (x.seq q).k = x.k := rfl
  have eq' : (x.seq q).q = q := rfl
  rw [eb, em, ek, eq'] at hb2
  have l1 : (recM ++ leBytes 1 x.k.toNat).length = 5 := by simp [recM, leBytes_length]
  have l2 : ∀ v, (recM ++ leBytes 1 x.k.toNat ++ leBytes 8 v).length = 13 := by intro v; simp [recM, leBytes_length]
  refine ⟨?_, ?_, ?_⟩
  · rw [Bool.eq_iff_iff, bytes_same, beq_iff_eq]
    constructor
    · intro h
      have h2 : x.bytes = (x.seq q).bytes := by
        have := congrArg (fun b : ByteArray => b.data.toList) h
        simpa [tx_list] using this
      rw [hb1, hb2] at h2
      have h3 := List.append_cancel_right h2
      have h4 := List.append_cancel_left h3
      have h5 := (le_inj8 (by rw [e8]; have := hf.2.1; have := hf.1; omega) (by rw [e8]; omega)).1 h4
      have := hf.1
      omega
    · intro h
      subst h
      rfl
  · rw [bytes_same, tx_ext, tx_ext, hb1, hb2]
    congr 1
    all_goals (simp only [List.drop_zero, Nat.sub_zero]; rw [List.append_assoc, List.append_assoc (recM ++ _), List.take_left' l1, List.take_left' l1])
  · rw [bytes_same, tx_ext, tx_ext, hb1, hb2]
    all_goals rw [List.drop_left' (l2 _), List.drop_left' (l2 _)]

set_option maxHeartbeats 2000000 in
theorem recFields_yes (w : World) (k q t : Int) (ah am : Option Addr) (n ch m cm : Nat) (u sq : Int) (S T : ByteArray) (hn : n ≤ 1000) (hm : m ≤ 1000) (hS : S.size = 128) (hT : T.size = 128)
    (c : Bool) (t1 : (S.toList == T.toList) = c) (t2 : (sq == q) = c) (t3 : ((S.extract 0 5).toList == (T.extract 0 5).toList) = true) (t4 : ((S.extract 13 128).toList == (T.extract 13 128).toList) = true)
    (HE1 : Hid (∀ W, Below w.heap.size w W → Calls Try.prog 11 #[rv k q t ah n ch am m cm u] W fun e w' => e = .returned (.tuple #[.string S, .int .i64 0]) ∧ Below W.heap.size W w'))
    (HE2 : Hid (∀ W, Below w.heap.size w W → Calls Try.prog 11 #[rv k sq t ah n ch am m cm u] W fun e w' => e = .returned (.tuple #[.string T, .int .i64 0]) ∧ Below W.heap.size W w'))
    (HG : Hid (∀ W, Calls Try.prog 21 #[.string S, .int .i64 4, .int .i64 1] W fun e w' => e = .returned (.tuple #[.int .i64 k, .bool true]) ∧ W = w'))
    (HQ : Hid (∀ W, Calls Try.prog 22 #[.string S, .int .i64 5, .int .i64 8] W fun e w' => e = .returned (.tuple #[.int .u64 q, .bool true]) ∧ W = w')) :
    Calls Try.prog 8 #[rv k q t ah n ch am m cm u, .int .u64 sq] w fun e w' => e = .returned (.bool true) ∧ Below w.heap.size w w' := by
  have s1 : (k != k) = false := by simp
  have s2 : (q != q) = false := by simp
  have z0 := rowAt_alloc w (rcells k q t ah n ch am m cm u) 27
  have Y : Below w.heap.size w (w.alloc (.cells (rcells k q t ah n ch am m cm u) 27)) := by go_grown
  go_enter Try.func8, Try.ntmps8
  go_wp2_with fail
  refine (HE1.out _ Y).mono ?_
  rintro e w1 ⟨rfl, hb1⟩
  have r1 := z0.below hb1 z0.lt
  have B1 := below_chain Y hb1 Y.size
  have L1 := r1.lt
  obtain ⟨c0, c1, c2, c3, c4, c5⟩ := sixr_cells r1
  have B1a := B1.alloc B1.size (.cells (rcells k sq t ah n ch am m cm u) 27)
  have r1a := r1.alloc (.cells (rcells k sq t ah n ch am m cm u) 27)
  clear z0 Y hb1
  go_wp2_with fail
  refine (HE2.out _ B1a).mono ?_
  rintro e w2 ⟨rfl, hb2⟩
  have r2 := r1a.below hb2 r1a.lt
  have B2 := below_chain B1a hb2 B1a.size
  clear c0 c1 c2 c3 c4 c5 r1 r1a hb2 L1
  have d0 := r2.cell 0 (by simp)
  have d1 := r2.cell 1 (by simp)
  go_wp2_with fail
  refine (HG.out _).mono ?_
  rintro e w3 ⟨rfl, rfl⟩
  go_wp2_with fail
  refine (HQ.out _).mono ?_
  rintro e w3 ⟨rfl, rfl⟩
  cases c
  all_goals
    go_wp2_with fail
    go_still_tail 23, (by kernel_rfl)
    change wpList _ _ _ _ _ (World.drew _)
    have B3 := B2.drew
    go_wp2_with fail
    refine (alive08 _).mono ?_
    rintro e w3 ⟨rfl, hb3⟩
    have B4 := below_chain B3 hb3 B3.size
    go_wp2_with fail
    go_ret
    exact ⟨rfl, B4⟩

set_option maxHeartbeats 2000000 in
theorem recFields_no (w : World) (k q t : Int) (ah am : Option Addr) (n ch m cm : Nat) (u sq : Int) (S T : ByteArray) (hn : n ≤ 1000) (hm : m ≤ 1000)
    (HE1 : Hid (∀ W, Below w.heap.size w W → Calls Try.prog 11 #[rv k q t ah n ch am m cm u] W fun e w' => e = .returned (.tuple #[.string S, .int .i64 2]) ∧ Below W.heap.size W w'))
    (HE2 : Hid (∀ W, Below w.heap.size w W → Calls Try.prog 11 #[rv k sq t ah n ch am m cm u] W fun e w' => e = .returned (.tuple #[.string T, .int .i64 2]) ∧ Below W.heap.size W w')) :
    Calls Try.prog 8 #[rv k q t ah n ch am m cm u, .int .u64 sq] w fun e w' => e = .returned (.bool true) ∧ Below w.heap.size w w' := by
  have z0 := rowAt_alloc w (rcells k q t ah n ch am m cm u) 27
  have Y : Below w.heap.size w (w.alloc (.cells (rcells k q t ah n ch am m cm u) 27)) := by go_grown
  go_enter Try.func8, Try.ntmps8
  go_wp2_with fail
  refine (HE1.out _ Y).mono ?_
  rintro e w1 ⟨rfl, hb1⟩
  have r1 := z0.below hb1 z0.lt
  have B1 := below_chain Y hb1 Y.size
  have L1 := r1.lt
  obtain ⟨c0, c1, c2, c3, c4, c5⟩ := sixr_cells r1
  have B1a := B1.alloc B1.size (.cells (rcells k sq t ah n ch am m cm u) 27)
  clear z0 Y hb1
  go_wp2_with fail
  refine (HE2.out _ B1a).mono ?_
  rintro e w2 ⟨rfl, hb2⟩
  have B2 := below_chain B1a hb2 B1a.size
  clear c0 c1 c2 c3 c4 c5 r1 hb2 L1
  go_wp2_with fail
  refine (alive08 _).mono ?_
  rintro e w3 ⟨rfl, hb3⟩
  have B4 := below_chain B2 hb3 B2.size
  go_wp2_with fail
  go_ret
  exact ⟨rfl, B4⟩

set_option maxHeartbeats 2000000 in
theorem recFields_great (w : World) (k q t : Int) (ah am : Option Addr) (n ch m cm : Nat) (u sq : Int) (h : (1000 : Int) < (n : Int) ∨ (n : Int) ≤ 1000 ∧ (1000 : Int) < (m : Int)) :
    Calls Try.prog 8 #[rv k q t ah n ch am m cm u, .int .u64 sq] w fun e w' => e = .returned (.bool true) ∧ Below w.heap.size w w' := by
  have Y : Below w.heap.size w (w.alloc (.cells (rcells k q t ah n ch am m cm u) 27)) := by go_grown
  rcases h with h | ⟨h1, h2⟩
  all_goals
    go_enter Try.func8, Try.ntmps8
    go_wp2_with fail
    go_ret
    exact ⟨rfl, Y⟩

theorem walk_recordsFields (w : World) (x : Rc) (ah : Option Addr) (ch : Nat) (am : Option Addr) (cm : Nat) (hf : x.fit) (hr : RcR x ah ch am cm) (hS : RcS w x ah am) (sq : Int) (h0 : 0 ≤ sq) (h1 : sq ≤ 18446744073709551615) :
    Calls Try.prog 8 #[rcV x ah ch am cm, .int .u64 sq] w fun e w' => e = .returned (.bool true) ∧ Below w.heap.size w w' := by
  by_cases hn : x.hs.length ≤ 1000
  · by_cases hm : x.ms.length ≤ 1000
    · have hf2 : (x.seq sq).fit := ⟨h0, h1, hf.2.2.1, hf.2.2.2⟩
      cases hok : x.ok with
      | true =>
        obtain ⟨q1, q2, q3⟩ := seq_same x sq hok hf h0 h1
        have hok2 : (x.seq sq).ok = true := hok
        have k1 := rec_kind hok hf
        have k2 := rec_seq hok hf
        have hsz : (tx x.bytes).size = 128 := by rw [tx_size, Rc.bytes_length hok]
        have hs9 : (tx x.bytes).size ≤ maxLen := by rw [hsz]; decide
        have k3 : getIOk (tx x.bytes) 4 1 = true := getIOk_small (fits_iff.2 ⟨.inl rfl, by omega, by rw [hsz]; decide⟩) (by omega)
        have k4 : fits (tx x.bytes).size 5 8 = true := fits_iff.2 ⟨by omega, by omega, by rw [hsz]; decide⟩
        refine recFields_yes w x.k x.q x.at_ ah am x.hs.length ch x.ms.length cm x.sum sq (tx x.bytes) (tx (x.seq sq).bytes) hn hm hsz (by rw [tx_size, Rc.bytes_length hok2]) _ q1 rfl q2 q3 (Lib.hid fun W hb => ?_) (Lib.hid fun W hb => ?_) (Lib.hid fun W => ?_) (Lib.hid fun W => ?_)
        · exact recenc_yes x ah ch am cm W hf (hS.below hb (Nat.le_refl _)) hok
        · exact recenc_yes (x.seq sq) ah ch am cm W hf2 (RcS.below (x := x.seq sq) hS hb (Nat.le_refl _)) hok2
        · have := getint_any (tx x.bytes) 4 1 W hs9
          rw [k1, k3] at this
          exact this
        · have := get_any (tx x.bytes) 5 8 W hs9
          rw [k2, k4] at this
          exact this
      | false =>
        have hok2 : (x.seq sq).ok = false := hok
        exact recFields_no w x.k x.q x.at_ ah am x.hs.length ch x.ms.length cm x.sum sq _ _ hn hm (Lib.hid fun W hb => recenc_no x ah ch am cm W (by omega) (by omega) (hS.below hb (Nat.le_refl _)) hok)
          (Lib.hid fun W hb => recenc_no (x.seq sq) ah ch am cm W (by show x.hs.length ≤ _; omega) (by show x.ms.length ≤ _; omega) (RcS.below (x := x.seq sq) hS hb (Nat.le_refl _)) hok2)
    · exact recFields_great w _ _ _ _ _ _ _ _ _ _ _ (.inr ⟨by omega, by omega⟩)
  · exact recFields_great w _ _ _ _ _ _ _ _ _ _ _ (.inl (by omega))

/-! ### the frame (printed by mklaw.py) -/

set_option maxRecDepth 100000 in
theorem lifted_recordsFields (os : Os) (started : os.Started) (H : Type) (enc : TypeId × Value → H) :
    ReturnsInHanded {} Try.checked os 8 .any (Rows.recordsFieldsSpec.pre6 enc Try.prog Try.f8 Rows.recordsFieldsRow.domain false) (Rows.recordsFieldsSpec.post enc Try.prog Try.f8 false true false false) := by
  refine law_step (C := Try.checked) (tb := 4) (by kernel_rfl) (by kernel_rfl) started (by kernel_rfl) Try.func8 rfl Try.underlying4 rfl ?_ ?_
    (ChangeSpec.witness6 (enc := enc) (C := Try.checked) false ⟨#[], #[.agg #[.int .i64 0, .int .u64 0, .int .i64 0, .slice none 0 0, .slice none 0 0, .int .u32 0], .int .u64 0], []⟩ 8 (by kernel_rfl) (by kernel_rfl) (by kernel_rfl) (by kernel_rfl)) ?_
  · intro ds hl
    match ds, hl with
    | [d0, d1], _ => rfl
  · intro t ht
    rw [show Try.f8.params.toList = [27, 22] from by rw [Try.params8]] at ht
    simp only [List.mem_cons, List.not_mem_nil, or_false] at ht
    rcases ht with rfl | rfl
    · exact ⟨by kernel_rfl, of_decide_eq_true (by kernel_rfl)⟩
    · exact ⟨by kernel_rfl, of_decide_eq_true (by kernel_rfl)⟩
  · intro W args hG
    rw [show Try.f8.params.toList = [27, 22] from by rw [Try.params8]] at hG
    obtain ⟨v0, v1, rfl, g0, g1⟩ := gotAll_args2 hG
    obtain ⟨x0, ah0, ch0, am0, cm0, rfl, hf0, hr0, hs0⟩ := got_rec g0
    obtain ⟨a1, rfl, b1, c1⟩ := got_u64 Try.underlying22 g1
    exact walk_recordsFields W x0 ah0 ch0 am0 cm0 hf0 hr0 hs0 a1 b1 c1

theorem recordsFields_over : Rows.recordsFieldsRow.holds Try.pinned (OpenSpec.ofChange Rows.recordsFieldsSpec) :=
  OpenClaim.holds_of_wide 8 Try.f8 rfl rfl rfl rfl rfl rfl rfl ⟨rfl, rfl, rfl, rfl, rfl⟩ rfl rfl rfl rfl rfl (by kernel_rfl) Try.func8 (by kernel_rfl)
    (of_decide_eq_true (by kernel_rfl)) (by unfold Func.isWrapper; first | (rw [if_pos (by decide +kernel)]; kernel_rfl) | (rw [if_neg (by decide +kernel)]; exact ⟨rfl, rfl⟩))
    (fun os started H enc _ => lifted_recordsFields os started H enc)

theorem recordsFields_holds : Rows.RecordsFieldsSaid := recordsFields_over
#print axioms recordsFields_holds

end Go.Proofs.Ytfgnemddamebaaa
