/- Walks: entries out of bytes. -/
import Derived.Test.YtdeemaafngehoaaInoWalks3
import Derived.Laws.AppendOwn
set_option linter.unusedVariables false
set_option linter.unusedSimpArgs false
set_option maxRecDepth 100000
namespace Go.Proofs.Ytdeemaafngehoaa
open Go.RowKit Go.Joins

/-- entries as cells -/
def ecells (es : List (Int × Int × Int)) : List Value := (flE es).map (Value.int .i64)
theorem ecells_length (es : List (Int × Int × Int)) : (ecells es).length = es.length * 3 := by simp [ecells, flE_length]; omega
theorem ecells_append (a b : List (Int × Int × Int)) : ecells (a ++ b) = ecells a ++ ecells b := by simp [ecells, flE_append]
theorem ecells_at : ∀ (es : List (Int × Int × Int)) (i : Nat) (hi : i < es.length), (ecells es)[i * 3]? = some (.int .i64 es[i].1) ∧ (ecells es)[i * 3 + 1]? = some (.int .i64 es[i].2.1) ∧ (ecells es)[i * 3 + 2]? = some (.int .i64 es[i].2.2) := by
  intro es
  induction es with
  | nil => intro i hi; exact absurd hi (by simp)
  | cons y r ih =>
    intro i hi
    cases i with
    | zero => exact ⟨rfl, rfl, rfl⟩
    | succ i =>
      have := ih i (by simpa using hi)
      have e : (i + 1) * 3 = i * 3 + 1 + 1 + 1 := by omega
      rw [e]
      simpa [ecells, flE] using this

theorem entAt_row {w : World} {g : Nat} {es : List (Int × Int × Int)} (h : RowAt w g (ecells es)) : EntAt w g 0 es := by
  refine ⟨h.lt, fun i hi => ?_⟩
  have hl := ecells_length es
  obtain ⟨a, b, c⟩ := ecells_at es i hi
  rw [← h.cell _ (by omega)] at a b c
  simp only [Nat.zero_add]
  exact ⟨a, b, c⟩

/-- a slice of the call's own that holds entries -/
def OwnE (w : World) (base : Nat) (v : Value) (es : List (Int × Int × Int)) : Prop := w.ownsRow base 26 3 v es.length (ecells es)

theorem OwnE.form {w : World} {base : Nat} {v : Value} {es : List (Int × Int × Int)} (h : OwnE w base v es) : ∃ a cap, v = .slice a es.length cap ∧ EntS w a es ∧ (es = [] ∨ ∃ g, a = some ⟨g, 0, none⟩ ∧ base ≤ g ∧ RowAt w g (ecells es)) := by
  rcases h.2 with ⟨rfl, h0⟩ | ⟨g, cap, cur, rfl, hg, hh, hc, hm, hs, ht⟩
  · have : es = [] := List.length_eq_zero_iff.1 h0
    subst this
    exact ⟨none, 0, rfl, .inl rfl, .inl rfl⟩
  · have hr : RowAt w g (ecells es) := rowAt_own h (ecells_length es) (h.lt g rfl).2
    exact ⟨_, cap, rfl, .inr ⟨g, 0, rfl, entAt_row hr⟩, .inr ⟨g, rfl, hg, hr⟩⟩

theorem grown_below {w0 w w' : World} {row : Option Nat} {base : Nat} (h : Below base w0 w) (hg : w.grownBy w' row) (hr : ∀ k, row = some k → base ≤ k) (hB : base ≤ w.heap.size) : Below base w0 w' :=
  h.trans ⟨hg.os, hg.tape, hg.output, hg.size, fun k hk => hg.block k (by omega) (fun e => by have := hr k e.symm; omega)⟩

theorem row_news {w : World} {g : Nat} {xs : List Value} (h : RowAt w g xs) : ∀ j u, xs[j]? = some u → w.cell? ((⟨g, 0, none⟩ : Addr).add j) = some u := by
  intro j u hj
  have hl : j < xs.length := by
    rcases Nat.lt_or_ge j xs.length with c | c
    · exact c
    · rw [List.getElem?_eq_none c] at hj; cases hj
  rw [add_off, Nat.zero_add, h.cell j hl, hj]

theorem info_ent : (Try.prog.info? 26).map (fun i => (i.zero, i.size, i.bytes)) = some (some (.agg #[.int .i64 0, .int .i64 0, .int .i64 0]), 3, 24) := by kernel_rfl

theorem ptr_index (K : Nat) : (∀ w, (Instr.index 120 (.agg #[.pointer (some ⟨K, 0, none⟩), .pointer (some ⟨K, 1, none⟩), .pointer (some ⟨K, 2, none⟩)]) (.int .i64 0)).run Try.prog w = .ok (.pointer (some ⟨K, 0, none⟩)) w) ∧ (∀ w, (Instr.index 120 (.agg #[.pointer (some ⟨K, 0, none⟩), .pointer (some ⟨K, 1, none⟩), .pointer (some ⟨K, 2, none⟩)]) (.int .i64 1)).run Try.prog w = .ok (.pointer (some ⟨K, 1, none⟩)) w) ∧ (∀ w, (Instr.index 120 (.agg #[.pointer (some ⟨K, 0, none⟩), .pointer (some ⟨K, 1, none⟩), .pointer (some ⟨K, 2, none⟩)]) (.int .i64 2)).run Try.prog w = .ok (.pointer (some ⟨K, 2, none⟩)) w) :=
  ⟨fun _ => by kernel_rfl, fun _ => by kernel_rfl, fun _ => by kernel_rfl⟩

theorem entsOf_snoc (g : Int → Int → Int) (k : Nat) : entsOf g (k + 1) = entsOf g k ++ [(g (14 + 12 * (k : Int)) 4, g (18 + 12 * (k : Int)) 4, g (22 + 12 * (k : Int)) 4)] := by
  simp [entsOf, List.range_succ]
theorem entsOf_length (g : Int → Int → Int) (k : Nat) : (entsOf g k).length = k := by simp [entsOf]

/-- what Get answers -/
def EntsPost (s : ByteArray) (n : Nat) (w : World) (e : Ending) (w' : World) : Prop := ∃ v, e = .returned v ∧ OwnE w' w.heap.size v (entsOf (getIV s) n) ∧ Below w.heap.size w w'

set_option maxHeartbeats 2000000 in
theorem getEnts_any (s : ByteArray) (n : Nat) (w : World) (hs : s.size ≤ maxLen) (hn : n ≤ 1000) :
    Calls Try.prog 50 #[.string s, .int .i64 14, .int .i64 (n : Int)] w (EntsPost s n w) := by
  obtain ⟨i0, hi, hz0, hz1, hz2⟩ := info_parts info_ent
  have HI := Lib.hid (And.intro hi (And.intro hz0 (And.intro hz1 hz2)))
  clear hi hz0 hz1 hz2
  obtain ⟨g, hg⟩ : ∃ g : Int → Int → Int, g = getIV s := ⟨_, rfl⟩
  have HG := Lib.hid (fun (a : Int) W => by have := getint_any s a 4 W hs; rw [← hg] at this; exact this : ∀ (a : Int) W, Calls Try.prog 35 #[.string s, .int .i64 a, .int .i64 4] W fun e w' => e = .returned (.tuple #[.int .i64 (g a 4), .bool (getIOk s a 4)]) ∧ W = w')
  have HP : Hid (EntsPost s n w = fun e w' => ∃ v, e = .returned v ∧ OwnE w' w.heap.size v (entsOf g n) ∧ Below w.heap.size w w') := by
    show _ = _
    rw [hg]; rfl
  clear hg
  go_enter Try.func50, Try.ntmps50
  go_wp2_with fail
  go_loopw [1, 7, 12] (fun a v j wr => ∃ (k : Nat) (vv : Value), k ≤ n ∧ j = .int .i64 k ∧ a = .int .i64 (14 + 12 * (k : Int)) ∧ v = vv ∧ OwnE wr w.heap.size vv (entsOf g k) ∧ Below w.heap.size w wr) (fun _ _ j _ => n - (intOf j).toNat)
  case atStart => exact ⟨0, _, by omega, rfl, rfl, rfl, World.ownsRow_nil _ _ _ _, Below.refl _ _⟩
  case round =>
    obtain ⟨k, v, hk, rfl, rfl, hv, hown, B1⟩ := hrel
    have hv' := hv.symm
    clear hv
    subst hv'
    have HO := Lib.hid hown
    have HK : Hid (wr.ownsRow w.heap.size 26 3 v k (ecells (entsOf g k))) := by
      have := hown
      unfold OwnE at this
      rw [entsOf_length] at this
      exact this
    have hlt' := fun j (hj : v.ownBlock = some j) => World.ownsRow.lt HK.out j hj
    have HL := Lib.hid hlt'
    clear hown hlt'
    by_cases hlt : k < n
    · obtain ⟨p0, p1, p2⟩ := ptr_index wr.heap.size
      go_wp2_with fail
      refine wp_loop_rounds 4 ?_
      rw [rounds_succ]
      go_wp2_with fail
      refine (HG.out _ _).mono ?_
      rintro e w4 ⟨rfl, rfl⟩
      go_wp2_with fail
      rw [rounds_succ]
      go_wp2_with fail
      refine (HG.out _ _).mono ?_
      rintro e w4 ⟨rfl, rfl⟩
      go_wp2_with fail
      rw [rounds_succ]
      go_wp2_with fail
      refine (HG.out _ _).mono ?_
      rintro e w4 ⟨rfl, rfl⟩
      go_wp2_with fail
      rw [rounds_succ]
      have e1 : 14 + 12 * (k : Int) + 4 = 18 + 12 * (k : Int) := by omega
      have e2 : 14 + 12 * (k : Int) + 4 + 4 = 22 + 12 * (k : Int) := by omega
      rw [e2, e1]
      clear e1 e2
      have hr1 := rowAt_alloc wr #[.int .i64 (g (14 + 12 * (k : Int)) 4), .int .i64 (g (18 + 12 * (k : Int)) 4), .int .i64 (g (22 + 12 * (k : Int)) 4)] 26
      have hr2 := rowAt_alloc (wr.alloc (.cells #[.int .i64 (g (14 + 12 * (k : Int)) 4), .int .i64 (g (18 + 12 * (k : Int)) 4), .int .i64 (g (22 + 12 * (k : Int)) 4)] 26)) #[.int .i64 (g (14 + 12 * (k : Int)) 4), .int .i64 (g (18 + 12 * (k : Int)) 4), .int .i64 (g (22 + 12 * (k : Int)) 4)] 26
      rw [World.size_alloc] at hr2
      have HR2 := Lib.hid (row_news hr2)
      clear hr1 hr2
      go_wp2_with (at_builtin; refine wpList_append_own _ rfl _ _ 22 rfl w.heap.size 26 i0 (.agg #[.int .i64 0, .int .i64 0, .int .i64 0]) 3 24 Try.underlying22 HI.out.1 HI.out.2.1 HI.out.2.2.1 HI.out.2.2.2 rfl (by decide) _ k _ rfl ((HK.out.alloc _).alloc _) ⟨wr.heap.size + 1, 0, none⟩ 1 1 [.int .i64 (g (14 + 12 * (k : Int)) 4), .int .i64 (g (18 + 12 * (k : Int)) 4), .int .i64 (g (22 + 12 * (k : Int)) 4)] rfl rfl ?c1 ?c2 ?c3 ?c4 ?c5 ?_)
      case c2 => refine ⟨?_, ?_, ?_⟩ <;> rfl
      case c3 => unfold maxLen; omega
      case c4 => omega
      case c5 => have := B1.size; omega
      intro v' w5 hown5 hg5 _
      have B5 := grown_below ((B1.alloc B1.size (.cells #[.int .i64 (g (14 + 12 * (k : Int)) 4), .int .i64 (g (18 + 12 * (k : Int)) 4), .int .i64 (g (22 + 12 * (k : Int)) 4)] 26)).alloc (by simp; have := B1.size; omega) (.cells #[.int .i64 (g (14 + 12 * (k : Int)) 4), .int .i64 (g (18 + 12 * (k : Int)) 4), .int .i64 (g (22 + 12 * (k : Int)) 4)] 26)) hg5 (fun j hj => (HL.out j hj).1) (by simp; have := B1.size; omega)
      have HO5 : Hid (OwnE w5 w.heap.size v' (entsOf g (k + 1))) := by
        show World.ownsRow _ _ _ _ _ _ _
        rw [entsOf_snoc, List.length_append, entsOf_length, ecells_append]
        exact hown5
      clear hown5 hg5
      go_wp2_with fail
      go_roundw
      case rel => exact ⟨k + 1, _, by omega, by go_num, by go_num, rfl, HO5.out, B5⟩
      case measure => simp [intOf]; omega
    · obtain rfl : k = n := by omega
      go_wp2_with fail
      go_ret
      rw [HP.out]
      exact ⟨_, rfl, HO.out, B1⟩

end Go.Proofs.Ytdeemaafngehoaa
