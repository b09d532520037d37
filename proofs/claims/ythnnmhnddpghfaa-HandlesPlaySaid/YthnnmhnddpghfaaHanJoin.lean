/- Walks: the document's table of descriptors beside the program's: each answer is the same. -/
import Derived.Test.YthnnmhnddpghfaaHanRef7
import Derived.Test.YthnnmhnddpghfaaHanRef8
import Derived.Test.YthnnmhnddpghfaaPlainHan4
import Derived.Test.YthnnmhnddpghfaaHanAlive
set_option linter.unusedVariables false
set_option linter.unusedSimpArgs false
set_option maxRecDepth 100000
namespace Go.Proofs.Ythnnmhnddpghfaa
open Go.RowKit Go.Joins

section
variable {R base : Nat} {T : List Sl} {L : List Rf} {w : World}

theorem jopen (n : Int) (h : RO w R base L) (hs : Same21 T L) (hb : base ≤ w.heap.size) :
    Calls Try.prog 14 #[.pointer (some ⟨R, 0, none⟩), .int .i64 n] w fun e w' => e = .returned (.tuple #[.int .i64 (tOpen T n).2.1, .int .i64 (tOpen T n).2.2]) ∧ (∃ L', RO w' R base L' ∧ Same21 (tOpen T n).1 L') ∧ KeptR R base w w' ∧ FarR R w w' := by
  have hl := sm_le hs
  by_cases hn : n < 0
  · rw [show tOpen T n = (T, 0, 2) from if_pos hn]
    refine (ropen_arg R n w hn).mono ?_
    rintro e w1 ⟨rfl, rfl⟩
    exact ⟨rfl, ⟨L, h, hs⟩, KeptR.refl _ _ _, FarR.refl _ _⟩
  · cases hf : firstFree T with
    | some k =>
      rw [show tOpen T n = (T.set k ⟨true, n, 0⟩, (k : Int), 0) from by rw [tOpen, if_neg hn, hf]]
      obtain ⟨h1, h2, h3⟩ := sm_free_some hs hf
      refine (ropen_some R base L n k w h (by omega) hb (by omega) h1 h2 h3).mono ?_
      rintro e w1 ⟨rfl, h4, h5⟩
      exact ⟨rfl, ⟨_, h4, sm_opened hs n hf⟩, h5⟩
    | none =>
      rw [show tOpen T n = (T, 0, 221) from by rw [tOpen, if_neg hn, hf]]
      refine (ropen_full R L n w h.rt (by omega) (by omega) (sm_free_none hs hf)).mono ?_
      rintro e w1 ⟨rfl, rfl⟩
      exact ⟨rfl, ⟨L, h, hs⟩, KeptR.refl _ _ _, FarR.refl _ _⟩

theorem jseek (fd z : Int) (h : RO w R base L) (hs : Same21 T L) :
    Calls Try.prog 18 #[.pointer (some ⟨R, 0, none⟩), .int .i64 fd, .int .i64 z] w fun e w' => e = .returned (.int .i64 (tSeek T fd z).2) ∧ (∃ L', RO w' R base L' ∧ Same21 (tSeek T fd z).1 L') ∧ KeptR R base w w' ∧ FarR R w w' ∧ w'.heap[R]? = w.heap[R]? := by
  have hl := sm_le hs
  cases hsl : slotOf T fd with
  | none =>
    rw [show tSeek T fd z = (T, 220) from by rw [tSeek, hsl]]
    refine (rseek_none R L fd z w h.rt (by omega) (sm_none hs hsl)).mono ?_
    rintro e w1 ⟨rfl, rfl⟩
    exact ⟨rfl, ⟨L, h, hs⟩, KeptR.refl _ _ _, FarR.refl _ _, rfl⟩
  | some s =>
    obtain ⟨k, x, h1, h2, h3, h4, h5⟩ := sm_some hs hsl
    by_cases hz : z < 0 ∨ 262144 < z
    · rw [show tSeek T fd z = (T, 216) from by rw [tSeek, hsl]; exact if_pos hz]
      refine (rseek_bad R L fd z k w h.rt (by omega) h1 hz).mono ?_
      rintro e w1 ⟨rfl, rfl⟩
      exact ⟨rfl, ⟨L, h, hs⟩, KeptR.refl _ _ _, FarR.refl _ _, rfl⟩
    · rw [show tSeek T fd z = (T.set fd.toNat ⟨s.o, s.n, z⟩, 0) from by rw [tSeek, hsl]; exact if_neg hz]
      refine (rseek_ok R base L fd z k x w h (by omega) h1 h2 (by omega)).mono ?_
      rintro e w1 ⟨rfl, h6, h7⟩
      exact ⟨rfl, ⟨_, h6, sm_sought hs hsl h2 h3 h4⟩, h7⟩

theorem jclose (fd : Int) (h : RO w R base L) (hs : Same21 T L) (hb : base ≤ w.heap.size) :
    Calls Try.prog 16 #[.pointer (some ⟨R, 0, none⟩), .int .i64 fd] w fun e w' => e = .returned (.tuple #[.int .i64 (tClose T fd).2.1, .bool (tClose T fd).2.2.1, .int .i64 (tClose T fd).2.2.2]) ∧ (∃ L', RO w' R base L' ∧ Same21 (tClose T fd).1 L') ∧ KeptR R base w w' ∧ FarR R w w' := by
  have hl := sm_le hs
  cases hsl : slotOf T fd with
  | none =>
    rw [show tClose T fd = (T, 0, false, 220) from by rw [tClose, hsl]]
    refine (rclose_none R L fd w h.rt (by omega) (sm_none hs hsl)).mono ?_
    rintro e w1 ⟨rfl, rfl⟩
    exact ⟨rfl, ⟨L, h, hs⟩, KeptR.refl _ _ _, FarR.refl _ _⟩
  | some s =>
    obtain ⟨k, x, h1, h2, h3, h4, h5⟩ := sm_some hs hsl
    have hc := sm_closed hs hsl h2 h3
    rw [show tClose T fd = (T.set fd.toNat Sl.none, s.n, !tHas (T.set fd.toNat Sl.none) s.n, 0) from by rw [tClose, hsl]]
    refine (rclose_ok R base L fd k x w h (by omega) hb h1 h2).mono ?_
    rintro e w1 ⟨rfl, h6, h7⟩
    refine ⟨?_, ⟨_, h6, hc⟩, h7⟩
    rw [h4, sm_has hc s.n]

theorem jget (fd : Int) (h : RO w R base L) (hs : Same21 T L) :
    Calls Try.prog 19 #[.pointer (some ⟨R, 0, none⟩), .int .i64 fd] w fun e w' => e = .returned (.tuple #[.int .i64 (tGet T fd).1, .int .i64 (tGet T fd).2.1, .int .i64 (tGet T fd).2.2]) ∧ Below w.heap.size w w' := by
  have hl := sm_le hs
  cases hsl : slotOf T fd with
  | none =>
    rw [show tGet T fd = (0, 0, 220) from by rw [tGet, hsl]]
    exact rget_none R L fd w h.rt (by omega) (sm_none hs hsl)
  | some s =>
    obtain ⟨k, x, h1, h2, h3, h4, h5⟩ := sm_some hs hsl
    rw [show tGet T fd = (s.n, s.a, 0) from by rw [tGet, hsl], ← h4, ← h5]
    exact rget_some R L fd k x w h.rt (by omega) h1 h2

theorem jhas (n : Int) (h : RO w R base L) (hs : Same21 T L) :
    Calls Try.prog 20 #[.pointer (some ⟨R, 0, none⟩), .int .i64 n] w fun e w' => e = .returned (.bool (tHas T n)) ∧ w = w' := by
  have hl := sm_le hs
  rw [sm_has hs n]
  exact rhas R L n w h.rt (by omega)

theorem jnodes (h : RO w R base L) (hs : Same21 T L) : Calls Try.prog 24 #[.pointer (some ⟨R, 0, none⟩)] w (NodesP T w) := by
  have hl := sm_le hs
  refine (rnodes R L w h.rt (by omega)).mono ?_
  rintro e w1 ⟨a, cap, out, rfl, h1, h2, h3, h4, h5⟩
  rw [List.take_length] at h4
  have e1 := sm_nodes hs h3 h4
  exact ⟨a, cap, by rw [e1], by rw [e1]; exact h1, h2⟩
end

/-! ### what stands beside the act at hand -/

def acells (x : Ac) : List Value := [.int .u8 x.k, .int .i64 x.fd, .int .i64 x.n]

/-- the act at block X, the two tables, and all below -/
structure PlayG (w W : World) (Kt R X : Nat) (T : List Sl) (L : List Rf) (x : Ac) (vR : Value) : Prop where
  act : RowAt W X (acells x)
  tab : TabAt W Kt true T
  own : RO W R (R + 1) L
  same : Same21 T L
  low : Below w.heap.size w W
  at_ : W.cell? ⟨R, 0, none⟩ = some vR

def PlayS (w W : World) (Kt R X : Nat) (T : List Sl) (L : List Rf) (x : Ac) (vR : Value) : Prop :=
  W.cell? ⟨X, 1, none⟩ = some (.int .i64 x.fd) ∧ W.cell? ⟨X, 2, none⟩ = some (.int .i64 x.n) ∧ W.cell? ⟨R, 0, none⟩ = some vR ∧ PlayG w W Kt R X T L x vR

section
variable {w W W' : World} {Kt R X : Nat} {T T' : List Sl} {L L' : List Rf} {x : Ac} {vR : Value}
theorem PlayG.below (h : PlayG w W Kt R X T L x vR) (hb : Below W.heap.size W W') : PlayG w W' Kt R X T L x vR :=
  ⟨h.act.below hb h.act.lt, h.tab.below hb (Nat.le_refl _), h.own.below hb, h.same, below_chain h.low hb h.low.size, by rw [hb.cell (p := ⟨R, 0, none⟩) h.own.low.2]; exact h.at_⟩
theorem PlayG.cells (h : PlayG w W Kt R X T L x vR) : W.cell? ⟨X, 1, none⟩ = some (.int .i64 x.fd) ∧ W.cell? ⟨X, 2, none⟩ = some (.int .i64 x.n) ∧ W.cell? ⟨R, 0, none⟩ = some vR ∧ PlayG w W Kt R X T L x vR :=
  ⟨h.act.cell 1 (by simp [acells]), h.act.cell 2 (by simp [acells]), h.at_, h⟩
theorem PlayG.kind (h : PlayG w W Kt R X T L x vR) : W.cell? ⟨X, 0, none⟩ = some (.int .u8 x.k) := h.act.cell 0 (by simp [acells])
theorem play_keep (h : W.cell? ⟨X, 1, none⟩ = some (.int .i64 x.fd) ∧ W.cell? ⟨X, 2, none⟩ = some (.int .i64 x.n) ∧ W.cell? ⟨R, 0, none⟩ = some vR ∧ PlayG w W Kt R X T L x vR) (hb : Below W.heap.size W W') : W'.cell? ⟨X, 1, none⟩ = some (.int .i64 x.fd) ∧ W'.cell? ⟨X, 2, none⟩ = some (.int .i64 x.n) ∧ W'.cell? ⟨R, 0, none⟩ = some vR ∧ PlayG w W' Kt R X T L x vR := (h.2.2.2.below hb).cells
theorem play_g (h : W.cell? ⟨X, 1, none⟩ = some (.int .i64 x.fd) ∧ W.cell? ⟨X, 2, none⟩ = some (.int .i64 x.n) ∧ W.cell? ⟨R, 0, none⟩ = some vR ∧ PlayG w W Kt R X T L x vR) : PlayG w W Kt R X T L x vR := h.2.2.2

/-- behind the program's method -/
theorem PlayG.prog (h : PlayG w W Kt R X T L x vR) (hg : W.grownBy W' (some Kt)) (hT : TabAt W' Kt true T') (hKR : Kt < R) (hKX : Kt ≠ X) (hw : w.heap.size ≤ Kt) : RowAt W' X (acells x) ∧ TabAt W' Kt true T' ∧ RO W' R (R + 1) L ∧ Below w.heap.size w W' ∧ W'.cell? ⟨R, 0, none⟩ = some vR :=
  ⟨h.act.grown hg (fun e => hKX (by injection e)), hT, h.own.grown hg (by omega) (by omega), grown_below4 h.low hg (fun j hj => by injection hj with hj; omega) h.low.size, hg.cell h.at_ (fun e => by injection e with e; simp at e; omega)⟩
end

theorem seek_again (T : List Sl) (fd z : Int) : tSeek (tSeek T fd z).1 fd z = ((tSeek T fd z).1, (tSeek T fd z).2) := by
  cases hs : slotOf T fd with
  | none => simp [tSeek, hs]
  | some s =>
    by_cases hz : z < 0 ∨ 262144 < z
    · simp [tSeek, hs, hz]
    · have e : tSeek T fd z = (T.set fd.toNat ⟨s.o, s.n, z⟩, 0) := by rw [tSeek, hs]; exact if_neg hz
      obtain ⟨h0, h1, h2, h3⟩ := slotOf_some hs
      have hl := (List.getElem?_eq_some_iff.1 h2).1
      have e2 : slotOf (T.set fd.toNat ⟨s.o, s.n, z⟩) fd = some ⟨s.o, s.n, z⟩ := by
        rw [slotOf, if_pos ⟨h0, h1⟩, List.getElem?_set_self hl]
        simp [Option.filter, h3]
      rw [e]
      simp only
      rw [tSeek, e2]
      simp only [hz, if_false, List.set_set]

/-- while both tables are sought in, in whatever order -/
structure SeekG (w W : World) (Kt R X : Nat) (T : List Sl) (x : Ac) (vR : Value) : Prop where
  act : RowAt W X (acells x)
  tab : TabAt W Kt true T ∨ TabAt W Kt true (tSeek T x.fd x.n).1
  own : ∃ L, RO W R (R + 1) L ∧ (Same21 T L ∨ Same21 (tSeek T x.fd x.n).1 L)
  low : Below w.heap.size w W
  at_ : W.cell? ⟨R, 0, none⟩ = some vR

section
variable {w W W' : World} {Kt R X : Nat} {T : List Sl} {x : Ac} {vR : Value}
theorem SeekG.cells (h : SeekG w W Kt R X T x vR) : W.cell? ⟨X, 1, none⟩ = some (.int .i64 x.fd) ∧ W.cell? ⟨X, 2, none⟩ = some (.int .i64 x.n) ∧ SeekG w W Kt R X T x vR :=
  ⟨h.act.cell 1 (by simp [acells]), h.act.cell 2 (by simp [acells]), h⟩
theorem seek_g (h : W.cell? ⟨X, 1, none⟩ = some (.int .i64 x.fd) ∧ W.cell? ⟨X, 2, none⟩ = some (.int .i64 x.n) ∧ SeekG w W Kt R X T x vR) : SeekG w W Kt R X T x vR := h.2.2
theorem SeekG.drew (h : SeekG w W Kt R X T x vR) : SeekG w W.drew Kt R X T x vR :=
  ⟨h.act, h.tab, h.own, h.low.drew, h.at_⟩

theorem seek_t (h : SeekG w W Kt R X T x vR) : Calls Try.prog 17 #[.pointer (some ⟨Kt, 0, none⟩), .int .i64 x.fd, .int .i64 x.n] W fun e W' => e = .returned (.int .i64 (tSeek T x.fd x.n).2) ∧ TabAt W' Kt true (tSeek T x.fd x.n).1 ∧ W.grownBy W' (some Kt) := by
  rcases h.tab with ht | ht
  · exact hseek Kt T x.fd x.n W ht
  · have := hseek Kt _ x.fd x.n W ht
    rw [seek_again] at this
    exact this
theorem seek_r (h : SeekG w W Kt R X T x vR) : Calls Try.prog 18 #[.pointer (some ⟨R, 0, none⟩), .int .i64 x.fd, .int .i64 x.n] W fun e W' => e = .returned (.int .i64 (tSeek T x.fd x.n).2) ∧ (∃ L', RO W' R (R + 1) L' ∧ Same21 (tSeek T x.fd x.n).1 L') ∧ KeptR R (R + 1) W W' ∧ FarR R W W' ∧ W'.heap[R]? = W.heap[R]? := by
  obtain ⟨L, hL, hs | hs⟩ := h.own
  · exact jseek x.fd x.n hL hs
  · have := jseek x.fd x.n hL hs
    rw [seek_again] at this
    exact this
theorem seek_kt (h : W.cell? ⟨X, 1, none⟩ = some (.int .i64 x.fd) ∧ W.cell? ⟨X, 2, none⟩ = some (.int .i64 x.n) ∧ SeekG w W Kt R X T x vR) (hT : TabAt W' Kt true (tSeek T x.fd x.n).1) (hg : W.grownBy W' (some Kt)) (hc : Kt < R ∧ Kt ≠ X ∧ R ≠ X ∧ w.heap.size ≤ Kt ∧ vR.ownBlock ≠ some X) :
    W'.cell? ⟨X, 1, none⟩ = some (.int .i64 x.fd) ∧ W'.cell? ⟨X, 2, none⟩ = some (.int .i64 x.n) ∧ SeekG w W' Kt R X T x vR := by
  obtain ⟨h1, h2, h3, h4, h5⟩ := hc
  obtain ⟨_, _, h⟩ := h
  obtain ⟨L, hL, hs⟩ := h.own
  refine SeekG.cells ⟨h.act.grown hg (fun e => h2 (by injection e)), .inr hT, ⟨L, hL.grown hg (by omega) (by omega), hs⟩, grown_below4 h.low hg (fun j hj => by injection hj with hj; omega) h.low.size, hg.cell h.at_ (fun e => by injection e with e; simp at e; omega)⟩
theorem seek_kr (h : W.cell? ⟨X, 1, none⟩ = some (.int .i64 x.fd) ∧ W.cell? ⟨X, 2, none⟩ = some (.int .i64 x.n) ∧ SeekG w W Kt R X T x vR) (hL : ∃ L', RO W' R (R + 1) L' ∧ Same21 (tSeek T x.fd x.n).1 L') (hk : KeptR R (R + 1) W W') (hf : FarR R W W') (hR : W'.heap[R]? = W.heap[R]?) (hc : Kt < R ∧ Kt ≠ X ∧ R ≠ X ∧ w.heap.size ≤ Kt ∧ vR.ownBlock ≠ some X) :
    W'.cell? ⟨X, 1, none⟩ = some (.int .i64 x.fd) ∧ W'.cell? ⟨X, 2, none⟩ = some (.int .i64 x.n) ∧ SeekG w W' Kt R X T x vR := by
  obtain ⟨h1, h2, h3, h4, h5⟩ := hc
  obtain ⟨_, _, h⟩ := h
  obtain ⟨L', hL1, hL2⟩ := hL
  have hc : W'.cell? ⟨R, 0, none⟩ = some vR := by
    have := h.at_
    simp only [World.cell?, hR] at this ⊢
    exact this
  refine SeekG.cells ⟨hf.row h.act (fun e => h3 e.symm) (fun v hv => ?_), ?_, ⟨L', hL1, .inr hL2⟩, h.low.trans (hk.below (by omega) (by omega)), hc⟩
  · rw [h.at_] at hv
    injection hv with hv
    rw [← hv]; exact h5
  · rcases h.tab with ht | ht
    · exact .inl (hk.tab ht (by omega) (by omega))
    · exact .inr (hk.tab ht (by omega) (by omega))
/-- both have been sought in -/
def SeekEnd (w W : World) (Kt R X : Nat) (T : List Sl) (x : Ac) : Prop := RowAt W X (acells x) ∧ TabAt W Kt true T ∧ (∃ L, RO W R (R + 1) L ∧ Same21 T L) ∧ Below w.heap.size w W
theorem seek_end1 {W1 : World} (hT : TabAt W1 Kt true (tSeek T x.fd x.n).1) (hk : KeptR R (R + 1) W1 W) (hL : ∃ L', RO W R (R + 1) L' ∧ Same21 (tSeek T x.fd x.n).1 L') (h : W.cell? ⟨X, 1, none⟩ = some (.int .i64 x.fd) ∧ W.cell? ⟨X, 2, none⟩ = some (.int .i64 x.n) ∧ SeekG w W Kt R X T x vR) (hc : Kt < R ∧ Kt ≠ X ∧ R ≠ X ∧ w.heap.size ≤ Kt ∧ vR.ownBlock ≠ some X) : SeekEnd w W Kt R X (tSeek T x.fd x.n).1 x :=
  ⟨h.2.2.act, hk.tab hT (by omega) (by omega), hL, h.2.2.low⟩
theorem seek_end2 {W1 : World} (hL : ∃ L', RO W1 R (R + 1) L' ∧ Same21 (tSeek T x.fd x.n).1 L') (hg : W1.grownBy W (some Kt)) (hT : TabAt W Kt true (tSeek T x.fd x.n).1) (h : W.cell? ⟨X, 1, none⟩ = some (.int .i64 x.fd) ∧ W.cell? ⟨X, 2, none⟩ = some (.int .i64 x.n) ∧ SeekG w W Kt R X T x vR) (hc : Kt < R ∧ Kt ≠ X ∧ R ≠ X ∧ w.heap.size ≤ Kt ∧ vR.ownBlock ≠ some X) : SeekEnd w W Kt R X (tSeek T x.fd x.n).1 x := by
  obtain ⟨L', h1, h2⟩ := hL
  exact ⟨h.2.2.act, hT, ⟨L', h1.grown hg (by omega) (by omega), h2⟩, h.2.2.low⟩
end

theorem same_self (a b : Option Addr) (ca cb : Nat) (xs : List Int) (w : World) (hn : xs.length ≤ 1000000) (hA : ValS w a (xs.map (Value.int .i64))) (hB : ValS w b (xs.map (Value.int .i64))) :
    Calls Try.prog 22 #[.slice a xs.length ca, .slice b xs.length cb] w fun e w' => e = .returned (.bool true) ∧ Below w.heap.size w w' := by
  have := sameints_eq a b ca cb xs xs w hn hA hB
  rwa [decide_eq_true rfl] at this
theorem nodes_len (T : List Sl) : (nodesOf T).length ≤ 1000000 := by
  have := Lib.compact_length_le ((openN T 16).mergeSort fun x y => decide (x ≤ y))
  have h2 := openN_len T 16
  rw [List.length_mergeSort] at this
  rw [nodesOf]; omega

end Go.Proofs.Ythnnmhnddpghfaa
