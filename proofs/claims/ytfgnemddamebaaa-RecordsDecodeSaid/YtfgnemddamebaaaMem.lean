/- Memory: a block of the call's own whose first cells are known; the two conversions between texts and bytes. No program in sight. -/
import Derived.WalkKit
import Derived.WalkSpells
import Derived.Lib.ConvBytes
import Derived.Laws.IdiomStrings
import Derived.Lib.Hide
import Derived.Lib.SmallJoins
namespace Go.Proofs.Ytfgnemddamebaaa
open Go Go.RowKit

/-- block b's first cells are xs; none of them is frozen -/
def RowAt (w : World) (b : Nat) (xs : List Value) : Prop :=
  ∃ C e lo hi, w.heap[b]? = some (.cells C e (lo, hi)) ∧ (∀ i, i < xs.length → C[i]? = xs[i]?) ∧ (∀ i, i < xs.length → ¬ (lo ≤ i ∧ i < hi))

section
variable {w w' : World} {b : Nat} {xs : List Value}

theorem RowAt.lt (h : RowAt w b xs) : b < w.heap.size := by
  obtain ⟨C, e, lo, hi, hb, _⟩ := h
  rcases Nat.lt_or_ge b w.heap.size with h | h
  · exact h
  · simp [Array.getElem?_eq_none h] at hb

theorem RowAt.cell (h : RowAt w b xs) (i : Nat) (hi : i < xs.length) : w.cell? ⟨b, i, none⟩ = xs[i]? := by
  obtain ⟨C, e, lo, hi', hb, hc, _⟩ := h
  simp [World.cell?, hb, hc i hi]

theorem RowAt.there (h : RowAt w b xs) (i : Nat) (hi : i < xs.length) : ∃ v, w.cell? ⟨b, i, none⟩ = some v :=
  ⟨_, (h.cell i hi).trans (List.getElem?_eq_getElem hi)⟩

theorem RowAt.frozen (h : RowAt w b xs) (i : Nat) (hi : i < xs.length) : w.frozen? ⟨b, i, none⟩ = false := by
  obtain ⟨C, e, lo, hi', hb, _, hz⟩ := h
  have := hz i hi
  simp only [World.frozen?, hb, Bool.and_eq_false_iff, decide_eq_false_iff_not]
  by_cases c : lo ≤ i
  · exact .inr (fun c' => this ⟨c, c'⟩)
  · exact .inl c

theorem RowAt.same (h : RowAt w b xs) (hs : w'.heap[b]? = w.heap[b]?) : RowAt w' b xs := by
  obtain ⟨C, e, lo, hi', hb, r⟩ := h
  exact ⟨C, e, lo, hi', by rw [hs]; exact hb, r⟩

theorem RowAt.below {B : Nat} (h : RowAt w b xs) (hb : Below B w w') (hl : b < B) : RowAt w' b xs := h.same (hb.block b hl)
theorem RowAt.drew (h : RowAt w b xs) : RowAt w.drew b xs := h
theorem RowAt.alloc (h : RowAt w b xs) (o : Obj) : RowAt (w.alloc o) b xs := h.same (Below.heap_alloc _ _ _ h.lt)
theorem RowAt.other (h : RowAt w b xs) (a : Addr) (v : Value) (hne : b ≠ a.block) : RowAt (w.setCell a v) b xs := h.same (Below.heap_setCell _ _ _ _ hne)

theorem RowAt.set (h : RowAt w b xs) (i : Nat) (v : Value) : RowAt (w.setCell ⟨b, i, none⟩ v) b (xs.set i v) := by
  obtain ⟨C, e, lo, hi', hb, hc, hz⟩ := h
  refine ⟨C.setIfInBounds i v, e, lo, hi', ?_, ?_, ?_⟩
  · simp only [World.setCell, Array.getElem?_modify, if_true, hb]
    rfl
  · intro j hj
    rw [List.length_set] at hj
    rw [List.getElem?_set, Array.getElem?_setIfInBounds]
    by_cases c : i = j
    · subst c
      have hC : i < C.size := by
        have := hc i hj
        rw [List.getElem?_eq_getElem hj] at this
        exact (Array.getElem?_eq_some_iff.1 this).1
      simp [hC, hj]
    · simp [c, hc j hj]
  · intro j hj
    rw [List.length_set] at hj
    exact hz j hj

theorem RowAt.take (h : RowAt w b xs) (n : Nat) : RowAt w b (xs.take n) := by
  obtain ⟨C, e, lo, hi', hb, hc, hz⟩ := h
  refine ⟨C, e, lo, hi', hb, fun i hi => ?_, fun i hi => hz i ?_⟩
  · simp at hi; rw [hc i (by omega), List.getElem?_take_of_lt (by omega)]
  · simp at hi; omega

theorem rowAt_alloc (w : World) (C : Array Value) (e : TypeId) : RowAt (w.alloc (.cells C e)) w.heap.size C.toList := by
  refine ⟨C, e, 0, 0, ?_, fun i _ => by simp, fun i _ => by omega⟩
  show (w.heap.push _)[w.heap.size]? = _
  simp

end

/-- bytes as cells -/
def bcells (l : List UInt8) : List Value := l.map fun b => .int .u8 (b.toNat : Int)

theorem bcells_length (l : List UInt8) : (bcells l).length = l.length := by simp [bcells]
theorem bcells_get (l : List UInt8) (i : Nat) : (bcells l)[i]? = (l[i]?).map fun b => .int .u8 (b.toNat : Int) := by simp [bcells]
theorem bcells_set (l : List UInt8) (i : Nat) (b : UInt8) : (bcells l).set i (.int .u8 (b.toNat : Int)) = bcells (l.set i b) := by simp [bcells, List.map_set]

/-- the bytes of a text -/
abbrev bts (s : ByteArray) : List UInt8 := s.data.toList
theorem bts_length (s : ByteArray) : (bts s).length = s.size := by simp

/-- two pieces of a text with bytes between them -/
theorem cut_join (s : ByteArray) (i j : Nat) (l : List UInt8) : s.extract 0 i ++ ⟨l.toArray⟩ ++ s.extract j s.size = ⟨((bts s).take i ++ l ++ (bts s).drop j).toArray⟩ := by
  apply ByteArray.ext
  apply Array.toList_inj.1
  have e1 : (s.extract 0 i).data.toList = (bts s).take i := by simp [ByteArray.data_extract]
  have e2 : (s.extract j s.size).data.toList = (bts s).drop j := by
    simp only [ByteArray.data_extract, Array.toList_extract]
    exact List.take_of_length_le (by simp)
  simp only [ByteArray.data_append, Array.toList_append, e1, e2]

section
variable {P : Program}

/-- []byte(s): a new block of the call's own -/
theorem conv_bytes (w : World) (src dst e : TypeId) (s : ByteArray) {u : TypeDesc} (hs : P.underlying src = some u) (hd : P.underlying dst = some (.slice e)) (he : P.underlying e = some (.int .u8)) :
    ∃ cap W1, (convert src dst (.string s)).run P w = .ok (.slice (some ⟨w.heap.size, 0, none⟩) s.size cap) W1 ∧ Below w.heap.size w W1 ∧ RowAt W1 w.heap.size (bcells (bts s)) ∧ W1.heap.size = w.heap.size + 1 := by
  refine ⟨_, _, Lib.run_convert_string_bytes w src dst e s hs hd he, ⟨?_, ?_, ?_, ?_, ?_⟩, ?_, Lib.bytesWorld_size _ _ _⟩
  · rfl
  · rfl
  · rfl
  · rw [Lib.bytesWorld_size]; omega
  · intro k hk; exact Lib.bytesWorld_at_old w e s k hk
  · refine ⟨_, _, _, _, Lib.bytesWorld_at_new w e s, ?_, ?_⟩
    · intro i hi
      rw [bcells_length, bts_length] at hi
      simp only [Lib.bytesCells, bcells]
      rw [Array.getElem?_append_left (by simp; exact hi)]
      simp
    · intro i hi
      rw [bcells_length, bts_length] at hi
      have : s.size ≤ (Lib.bytesCells w e s).size := by simp [Lib.bytesCells]
      omega

/-- string(b), b a slice of a block of the call's own -/
theorem conv_string (w : World) (src dst e : TypeId) (b n cap : Nat) (l : List UInt8) (hs : P.underlying src = some (.slice e)) (he : P.underlying e = some (.int .u8)) (hd : P.underlying dst = some .string)
    (h : RowAt w b (bcells l)) (hn : n = l.length) :
    (convert src dst (.slice (some ⟨b, 0, none⟩) n cap)).run P w = .ok (.string ⟨l.toArray⟩) w := by
  subst hn
  refine run_convert_bytes_back w src dst e ⟨b, 0, none⟩ cap l hs he hd (fun j hj => ?_)
  have e1 : (⟨b, 0, none⟩ : Addr).add j = ⟨b, j, none⟩ := by
    unfold Addr.add
    by_cases c : j = 0
    · subst c; rfl
    · simp [c]
  rw [e1, h.cell j (by rw [bcells_length]; exact hj), bcells_get, List.getElem?_eq_getElem hj]
  rfl

/-- string([]byte{x}) -/
theorem conv_one (W : World) (src dst e : TypeId) (x : Int) (hs : P.underlying src = some (.slice e)) (he : P.underlying e = some (.int .u8)) (hd : P.underlying dst = some .string)
    (h0 : 0 ≤ x) (h1 : x < 256) :
    (convert src dst (.slice (some ⟨W.heap.size, 0, none⟩) 1 1)).run P (W.alloc (.cells #[.int .u8 x] e)) = .ok (.string ⟨#[UInt8.ofNat x.toNat]⟩) (W.alloc (.cells #[.int .u8 x] e)) := by
  have hx : ((UInt8.ofNat x.toNat).toNat : Int) = x := by
    have : (UInt8.ofNat x.toNat).toNat = x.toNat % 256 := by simp
    omega
  refine conv_string _ src dst e W.heap.size 1 1 [UInt8.ofNat x.toNat] hs he hd ?_ rfl
  have e1 : bcells [UInt8.ofNat x.toNat] = [.int .u8 x] := by rw [bcells, List.map_cons, hx, List.map_nil]
  rw [e1]
  exact rowAt_alloc W #[.int .u8 x] e

end
end Go.Proofs.Ytfgnemddamebaaa
