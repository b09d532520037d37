/- Memory: a block of the call's own whose first cells are known; the two conversions between texts and bytes. No program in sight. Plain facts on names and paths. No function in sight. The frame of every law's proof: what a walk is told of the arguments ('Got'), and that a walk which returns true and turns nothing that was there proves the law's step. No function in sight. Small aids for walks: cells of blocks laid ahead of a call. Memory: rows that the call owns, and what make gives. append onto a row of the call's own, as one step of a region that draws its order. Slices whose elements are one cell: what they lead to. No function in sight. Rows that the call owns: appends of none, and what an append leaves. No function in sight. What is known of arguments that came in: their parts. No function in sight. A text's runes, one behind the other, at whatever world the iterator lies in; what a rune beyond ASCII skips. No function in sight. Plain facts on a table of descriptors. No function in sight. The frame of a law's proof whose row lists laid package variables that the walk does not read. No function in sight. -/
import Derived.WalkKit
import Derived.WalkSpells
import Derived.Lib.ConvBytes
import Derived.Laws.IdiomStrings
import Derived.Lib.Hide
import Derived.Lib.SmallJoins
import Derived.Lib.SplitLaws
import Derived.Lib.Split
import Derived.Lib.Join
import Derived.ProofKit
import Derived.OpenShut
import Derived.ShutString
import Derived.ChangeOld
import Derived.Below
import Derived.SizedLaws
import Derived.Laws.OwnMore
import Derived.OwnWalk
import Derived.Laws.AppendOwn
import Derived.Deep.RegionLaw
import Derived.Deep.Slices
import Derived.Deep.Fields
import Derived.ChangeSame
import Derived.Laws.RangeAny
import Derived.LaidMore
import Derived.LaidLaws
import Derived.Lay
import Derived.Handed
import Derived.Stop.Joined
namespace Go.Proofs.YtppdihpobokfnaaGreatDoor
open Go Go.RowKit

/-- block b's first cells are xs; none of them is frozen -/
def RowAt (w : World) (b : Nat) (xs : List Value) : Prop :=
  ∃ C e lo hi, w.heap[b]? = some (.cells C e (lo, hi)) ∧ (∀ i, i < xs.length → C[i]? = xs[i]?) ∧ (∀ i, i < xs.length → ¬ (lo ≤ i ∧ i < hi))

section
variable {w w' : World} {b : Nat} {xs : List Value}

theorem RowAt.lt (h : RowAt w b xs) : b < w.heap.size := by
  obtain ⟨C, e, lo, hi, hb, _⟩ := h
  rcases Nat.lt_or_ge b w.heap.size with h | h
  · exact h
  · simp [Array.getElem?_eq_none h] at hb

theorem RowAt.cell (h : RowAt w b xs) (i : Nat) (hi : i < xs.length) : w.cell? ⟨b, i, none⟩ = xs[i]? := by
  obtain ⟨C, e, lo, hi', hb, hc, _⟩ := h
  simp [World.cell?, hb, hc i hi]

theorem RowAt.there (h : RowAt w b xs) (i : Nat) (hi : i < xs.length) : ∃ v, w.cell? ⟨b, i, none⟩ = some v :=
  ⟨_, (h.cell i hi).trans (List.getElem?_eq_getElem hi)⟩

theorem RowAt.frozen (h : RowAt w b xs) (i : Nat) (hi : i < xs.length) : w.frozen? ⟨b, i, none⟩ = false := by
  obtain ⟨C, e, lo, hi', hb, _, hz⟩ := h
  have := hz i hi
  simp only [World.frozen?, hb, Bool.and_eq_false_iff, decide_eq_false_iff_not]
  by_cases c : lo ≤ i
  · exact .inr (fun c' => this ⟨c, c'⟩)
  · exact .inl c

theorem RowAt.same (h : RowAt w b xs) (hs : w'.heap[b]? = w.heap[b]?) : RowAt w' b xs := by
  obtain ⟨C, e, lo, hi', hb, r⟩ := h
  exact ⟨C, e, lo, hi', by rw [hs]; exact hb, r⟩

theorem RowAt.below {B : Nat} (h : RowAt w b xs) (hb : Below B w w') (hl : b < B) : RowAt w' b xs := h.same (hb.block b hl)
theorem RowAt.drew (h : RowAt w b xs) : RowAt w.drew b xs := h
theorem RowAt.alloc (h : RowAt w b xs) (o : Obj) : RowAt (w.alloc o) b xs := h.same (Below.heap_alloc _ _ _ h.lt)
theorem RowAt.other (h : RowAt w b xs) (a : Addr) (v : Value) (hne : b ≠ a.block) : RowAt (w.setCell a v) b xs := h.same (Below.heap_setCell _ _ _ _ hne)

theorem RowAt.set (h : RowAt w b xs) (i : Nat) (v : Value) : RowAt (w.setCell ⟨b, i, none⟩ v) b (xs.set i v) := by
  obtain ⟨C, e, lo, hi', hb, hc, hz⟩ := h
  refine ⟨C.setIfInBounds i v, e, lo, hi', ?_, ?_, ?_⟩
  · simp only [World.setCell, Array.getElem?_modify, if_true, hb]
    rfl
  · intro j hj
    rw [List.length_set] at hj
    rw [List.getElem?_set, Array.getElem?_setIfInBounds]
    by_cases c : i = j
    · subst c
      have hC : i < C.size := by
        have := hc i hj
        rw [List.getElem?_eq_getElem hj] at this
        exact (Array.getElem?_eq_some_iff.1 this).1
      simp [hC, hj]
    · simp [c, hc j hj]
  · intro j hj
    rw [List.length_set] at hj
    exact hz j hj

theorem RowAt.take (h : RowAt w b xs) (n : Nat) : RowAt w b (xs.take n) := by
  obtain ⟨C, e, lo, hi', hb, hc, hz⟩ := h
  refine ⟨C, e, lo, hi', hb, fun i hi => ?_, fun i hi => hz i ?_⟩
  · simp at hi; rw [hc i (by omega), List.getElem?_take_of_lt (by omega)]
  · simp at hi; omega

theorem rowAt_alloc (w : World) (C : Array Value) (e : TypeId) : RowAt (w.alloc (.cells C e)) w.heap.size C.toList := by
  refine ⟨C, e, 0, 0, ?_, fun i _ => by simp, fun i _ => by omega⟩
  show (w.heap.push _)[w.heap.size]? = _
  simp

end

/-- bytes as cells -/
def bcells (l : List UInt8) : List Value := l.map fun b => .int .u8 (b.toNat : Int)

theorem bcells_length (l : List UInt8) : (bcells l).length = l.length := by simp [bcells]
theorem bcells_get (l : List UInt8) (i : Nat) : (bcells l)[i]? = (l[i]?).map fun b => .int .u8 (b.toNat : Int) := by simp [bcells]
theorem bcells_set (l : List UInt8) (i : Nat) (b : UInt8) : (bcells l).set i (.int .u8 (b.toNat : Int)) = bcells (l.set i b) := by simp [bcells, List.map_set]

/-- the bytes of a text -/
abbrev bts (s : ByteArray) : List UInt8 := s.data.toList
theorem bts_length (s : ByteArray) : (bts s).length = s.size := by simp

/-- two pieces of a text with bytes between them -/
theorem cut_join (s : ByteArray) (i j : Nat) (l : List UInt8) : s.extract 0 i ++ ⟨l.toArray⟩ ++ s.extract j s.size = ⟨((bts s).take i ++ l ++ (bts s).drop j).toArray⟩ := by
  apply ByteArray.ext
  apply Array.toList_inj.1
  have e1 : (s.extract 0 i).data.toList = (bts s).take i := by simp [ByteArray.data_extract]
  have e2 : (s.extract j s.size).data.toList = (bts s).drop j := by
    simp only [ByteArray.data_extract, Array.toList_extract]
    exact List.take_of_length_le (by simp)
  simp only [ByteArray.data_append, Array.toList_append, e1, e2]

section
variable {P : Program}

/-- []byte(s): a new block of the call's own -/
theorem conv_bytes (w : World) (src dst e : TypeId) (s : ByteArray) {u : TypeDesc} (hs : P.underlying src = some u) (hd : P.underlying dst = some (.slice e)) (he : P.underlying e = some (.int .u8)) :
    ∃ cap W1, (convert src dst (.string s)).run P w = .ok (.slice (some ⟨w.heap.size, 0, none⟩) s.size cap) W1 ∧ Below w.heap.size w W1 ∧ RowAt W1 w.heap.size (bcells (bts s)) ∧ W1.heap.size = w.heap.size + 1 := by
  refine ⟨_, _, Lib.run_convert_string_bytes w src dst e s hs hd he, ⟨?_, ?_, ?_, ?_, ?_⟩, ?_, Lib.bytesWorld_size _ _ _⟩
  · rfl
  · rfl
  · rfl
  · rw [Lib.bytesWorld_size]; omega
  · intro k hk; exact Lib.bytesWorld_at_old w e s k hk
  · refine ⟨_, _, _, _, Lib.bytesWorld_at_new w e s, ?_, ?_⟩
    · intro i hi
      rw [bcells_length, bts_length] at hi
      simp only [Lib.bytesCells, bcells]
      rw [Array.getElem?_append_left (by simp; exact hi)]
      simp
    · intro i hi
      rw [bcells_length, bts_length] at hi
      have : s.size ≤ (Lib.bytesCells w e s).size := by simp [Lib.bytesCells]
      omega

/-- string(b), b a slice of a block of the call's own -/
theorem conv_string (w : World) (src dst e : TypeId) (b n cap : Nat) (l : List UInt8) (hs : P.underlying src = some (.slice e)) (he : P.underlying e = some (.int .u8)) (hd : P.underlying dst = some .string)
    (h : RowAt w b (bcells l)) (hn : n = l.length) :
    (convert src dst (.slice (some ⟨b, 0, none⟩) n cap)).run P w = .ok (.string ⟨l.toArray⟩) w := by
  subst hn
  refine run_convert_bytes_back w src dst e ⟨b, 0, none⟩ cap l hs he hd (fun j hj => ?_)
  have e1 : (⟨b, 0, none⟩ : Addr).add j = ⟨b, j, none⟩ := by
    unfold Addr.add
    by_cases c : j = 0
    · subst c; rfl
    · simp [c]
  rw [e1, h.cell j (by rw [bcells_length]; exact hj), bcells_get, List.getElem?_eq_getElem hj]
  rfl

/-- string([]byte{x}) -/
theorem conv_one (W : World) (src dst e : TypeId) (x : Int) (hs : P.underlying src = some (.slice e)) (he : P.underlying e = some (.int .u8)) (hd : P.underlying dst = some .string)
    (h0 : 0 ≤ x) (h1 : x < 256) :
    (convert src dst (.slice (some ⟨W.heap.size, 0, none⟩) 1 1)).run P (W.alloc (.cells #[.int .u8 x] e)) = .ok (.string ⟨#[UInt8.ofNat x.toNat]⟩) (W.alloc (.cells #[.int .u8 x] e)) := by
  have hx : ((UInt8.ofNat x.toNat).toNat : Int) = x := by
    have : (UInt8.ofNat x.toNat).toNat = x.toNat % 256 := by simp
    omega
  refine conv_string _ src dst e W.heap.size 1 1 [UInt8.ofNat x.toNat] hs he hd ?_ rfl
  have e1 : bcells [UInt8.ofNat x.toNat] = [.int .u8 x] := by rw [bcells, List.map_cons, hx, List.map_nil]
  rw [e1]
  exact rowAt_alloc W #[.int .u8 x] e

end
end Go.Proofs.YtppdihpobokfnaaGreatDoor

set_option linter.unusedVariables false
set_option linter.unusedSimpArgs false
namespace Go.Proofs.YtppdihpobokfnaaGreatDoor
open Go Go.RowKit

/-- may an entry have it? -/
def nmOk (l : List UInt8) : Bool := decide (1 ≤ l.length) && (decide (l.length ≤ 32) && l.all fun b => b != 0 && b != 47)
theorem nmOk_iff {l : List UInt8} : nmOk l = true ↔ 1 ≤ l.length ∧ l.length ≤ 32 ∧ ∀ b ∈ l, b ≠ 0 ∧ b ≠ 47 := by
  simp [nmOk]
theorem nmOk_slash {l : List UInt8} (h : nmOk l = true) : (47 : UInt8) ∉ l := fun hm => ((nmOk_iff.1 h).2.2 47 hm).2 rfl

/-- a text cut at its slashes -/
def pieces : List UInt8 → List (List UInt8)
  | [] => [[]]
  | c :: l => if c = 47 then [] :: pieces l else match pieces l with
    | [] => [[c]]
    | h :: t => (c :: h) :: t
theorem pieces_ne (l : List UInt8) : pieces l ≠ [] := by
  cases l with
  | nil => simp [pieces]
  | cons c l =>
    rw [pieces]
    split
    · simp
    · split <;> simp
/-- parts, each behind a slash -/
def flat : List (List UInt8) → List UInt8
  | [] => []
  | x :: xs => 47 :: (x ++ flat xs)
theorem flat_append (a b : List (List UInt8)) : flat (a ++ b) = flat a ++ flat b := by
  induction a with
  | nil => rfl
  | cons x a ih => simp [flat, ih]
theorem flat_tail (r : List (List UInt8)) : flat r = Lib.joinTail [47] r := by
  induction r with
  | nil => rfl
  | cons x r ih => rw [flat, ih]; simp [Lib.joinTail]
theorem flat_join {xs : List (List UInt8)} (h : xs ≠ []) : 47 :: Lib.join xs [47] = flat xs := by
  cases xs with
  | nil => exact absurd rfl h
  | cons x r => rw [Lib.join_cons, flat, flat_tail]
theorem pieces_flat : ∀ (xs : List (List UInt8)) (x : List UInt8), (∀ y ∈ x :: xs, (47 : UInt8) ∉ y) → pieces (x ++ flat xs) = x :: xs
  | [], [], _ => rfl
  | y :: ys, [], h => by
    rw [flat, List.nil_append, pieces, if_pos rfl, pieces_flat ys y (fun z hz => h z (List.mem_cons_of_mem _ hz))]
  | xs, c :: x, h => by
    have hc : c ≠ 47 := fun e => h (c :: x) (by simp) (by simp [e])
    rw [List.cons_append, pieces, if_neg hc, pieces_flat xs x]
    intro y hy
    rcases List.mem_cons.1 hy with rfl | hy
    · exact fun hm => h (c :: y) (by simp) (List.mem_cons_of_mem _ hm)
    · exact h y (List.mem_cons_of_mem _ hy)
theorem flat_pieces (r : List UInt8) : flat (pieces r) = 47 :: r := by
  induction r with
  | nil => rfl
  | cons c l ih =>
    rw [pieces]
    split
    · rename_i e
      rw [flat, ih, e]; rfl
    · split
      · rename_i e
        exact absurd e (pieces_ne l)
      · rename_i h t e
        rw [e, flat] at ih
        rw [flat, List.cons_append]
        injection ih with _ ih
        rw [ih]
theorem pieces_clean (r : List UInt8) : ∀ y ∈ pieces r, (47 : UInt8) ∉ y := by
  induction r with
  | nil => intro y hy; simp [pieces] at hy; subst hy; simp
  | cons c l ih =>
    rw [pieces]
    split
    · intro y hy
      rcases List.mem_cons.1 hy with rfl | hy
      · simp
      · exact ih y hy
    · rename_i hc
      split
      · rename_i e
        exact absurd e (pieces_ne l)
      · rename_i h t e
        rw [e] at ih
        intro y hy
        rcases List.mem_cons.1 hy with rfl | hy
        · have := ih h (by simp)
          simp only [List.mem_cons, not_or]
          exact ⟨fun q => hc q.symm, this⟩
        · exact ih y (List.mem_cons_of_mem _ hy)

theorem splitK_pieces (s : List UInt8) : Lib.splitK [47] 0 (Lib.count s [47]) s = pieces s := by
  induction s with
  | nil => rfl
  | cons b l ih =>
    by_cases hb : b = 47
    · subst hb
      rw [Lib.count_cons_eq, Nat.add_comm, Lib.splitK, pieces, if_pos rfl]
      have hi : Lib.index (47 :: l) [47] = 0 := by simp [Lib.index]
      rw [hi, if_neg (by decide)]
      simp [ih]
    · rw [Lib.count_cons_ne _ _ _ hb, pieces, if_neg hb, ← ih]
      cases hk : Lib.count l [47] with
      | zero => simp [Lib.splitK]
      | succ k =>
        have hge := Lib.index_ge l [47]
        have hne : Lib.index l [47] ≠ -1 := by
          intro e
          have := Lib.count_miss e
          omega
        obtain ⟨i, hi⟩ : ∃ i : Nat, Lib.index l [47] = i := ⟨(Lib.index l [47]).toNat, by omega⟩
        have h2 : Lib.index (b :: l) [47] = ((i + 1 : Nat) : Int) := by
          have hp : ([47] : List UInt8).isPrefixOf (b :: l) = false := by
            simp [List.isPrefixOf]; exact fun e => hb e.symm
          rw [Lib.index, hp, if_neg (by simp), hi, if_neg (by rw [beq_iff_eq]; omega)]
          rfl
        rw [Lib.splitK, Lib.splitK, h2, hi, if_neg (by rw [beq_iff_eq]; omega), if_neg (by rw [beq_iff_eq]; omega)]
        simp

/-- a path's parts, and why there are none -/
def splitP (p : List UInt8) : List (List UInt8) × Int :=
  if 256 < p.length then ([], 3) else match p with
  | [] => ([], 130)
  | c :: r => if c = 47 then (if r = [] then ([], 0) else if (pieces r).all nmOk then (if 16 < (pieces r).length then ([], 3) else (pieces r, 0)) else ([], 130)) else ([], 130)
/-- the path of parts -/
def pathS (xs : List (List UInt8)) : List UInt8 := if xs = [] then [47] else flat xs
def joinP (xs : List (List UInt8)) : List UInt8 × Int := if xs.all nmOk then (if 16 < xs.length ∨ 256 < (pathS xs).length then ([], 3) else (pathS xs, 0)) else ([], 130)
/-- why it is no name -/
def checkP (l : List UInt8) : Int := if nmOk l = true ∧ l ≠ [46] ∧ l ≠ [46, 46] then 0 else 130

/-- parts that are a path -/
def PathOk (xs : List (List UInt8)) : Prop := xs.all nmOk = true ∧ xs.length ≤ 16 ∧ (pathS xs).length ≤ 256

theorem splitP_flat (x : List UInt8) (xs : List (List UInt8)) (h : ∀ y ∈ x :: xs, (47 : UInt8) ∉ y) (hl : (flat (x :: xs)).length ≤ 256) (hne : x ++ flat xs ≠ []) :
    splitP (flat (x :: xs)) = if (x :: xs).all nmOk then (if 16 < (x :: xs).length then ([], 3) else (x :: xs, 0)) else ([], 130) := by
  unfold splitP
  rw [if_neg (by omega), flat]
  simp only [if_true, hne, if_false, pieces_flat xs x h]

theorem splitP_long {p : List UInt8} (h : 256 < p.length) : splitP p = ([], 3) := by unfold splitP; rw [if_pos h]
theorem splitP_root : splitP [47] = ([], 0) := rfl

theorem splitP_ok {p : List UInt8} {xs : List (List UInt8)} (h : splitP p = (xs, 0)) : PathOk xs ∧ p = pathS xs := by
  unfold splitP at h
  split at h
  · cases h
  · rename_i hl
    split at h
    · cases h
    · rename_i c r
      split at h
      · rename_i hc
        subst hc
        split at h
        · rename_i hr
          subst hr
          injection h with h _
          subst h
          exact ⟨⟨rfl, by simp, by simp [pathS]⟩, by simp [pathS]⟩
        · split at h
          · rename_i hall
            split at h
            · cases h
            · injection h with h _
              subst h
              have e : pathS (pieces r) = 47 :: r := by rw [pathS, if_neg (pieces_ne r), flat_pieces]
              exact ⟨⟨hall, by omega, by rw [e]; omega⟩, e.symm⟩
          · cases h
      · cases h

theorem all_slash {xs : List (List UInt8)} (h : xs.all nmOk = true) : ∀ y ∈ xs, (47 : UInt8) ∉ y := by
  rw [List.all_eq_true] at h
  exact fun y hy => nmOk_slash (h y hy)

theorem splitP_path {xs : List (List UInt8)} (h : PathOk xs) : splitP (pathS xs) = (xs, 0) := by
  obtain ⟨h1, h2, h3⟩ := h
  cases xs with
  | nil => rfl
  | cons x xs =>
    have e : pathS (x :: xs) = flat (x :: xs) := by simp [pathS]
    rw [e] at h3 ⊢
    have hx : nmOk x = true := by rw [List.all_cons, Bool.and_eq_true] at h1; exact h1.1
    have hx1 := (nmOk_iff.1 hx).1
    rw [splitP_flat x xs (all_slash h1) h3 (by intro q; rw [List.append_eq_nil_iff] at q; rw [q.1] at hx1; simp at hx1), if_pos h1, if_neg (by omega)]

theorem joinP_ok {xs : List (List UInt8)} {p : List UInt8} (h : joinP xs = (p, 0)) : PathOk xs ∧ p = pathS xs := by
  rw [joinP] at h
  split at h
  · rename_i h1
    split at h
    · cases h
    · rename_i h2
      injection h with h _
      exact ⟨⟨h1, by omega, by omega⟩, h.symm⟩
  · cases h
theorem joinP_path {xs : List (List UInt8)} (h : PathOk xs) : joinP xs = (pathS xs, 0) := by
  obtain ⟨h1, h2, h3⟩ := h
  rw [joinP, if_pos h1, if_neg (by omega)]
theorem joinP_err {xs : List (List UInt8)} (h : (joinP xs).2 ≠ 0) : (joinP xs).1 = [] := by
  rw [joinP] at h ⊢
  split
  · rename_i h1
    rw [if_pos h1] at h
    split
    · rfl
    · rename_i h2
      rw [if_neg h2] at h
      exact absurd rfl h
  · rfl
theorem splitP_err {p : List UInt8} (h : (splitP p).2 ≠ 0) : (splitP p).1 = [] ∧ ((splitP p).2 = 130 ∨ (splitP p).2 = 3) := by
  unfold splitP at h ⊢
  split
  · exact ⟨rfl, .inr rfl⟩
  · rename_i hl
    rw [if_neg hl] at h
    split
    · exact ⟨rfl, .inl rfl⟩
    · split
      · rename_i c r hc
        simp only [if_pos hc] at h
        split
        · rename_i hr
          rw [if_pos hr] at h
          exact absurd rfl h
        · rename_i hr
          rw [if_neg hr] at h
          split
          · rename_i ha
            rw [if_pos ha] at h
            split
            · exact ⟨rfl, .inr rfl⟩
            · rename_i h16
              rw [if_neg h16] at h
              exact absurd rfl h
          · exact ⟨rfl, .inl rfl⟩
      · exact ⟨rfl, .inl rfl⟩
theorem splitP_two (p : List UInt8) : splitP p = ((splitP p).1, 0) ∨ splitP p = ([], 130) ∨ splitP p = ([], 3) := by
  by_cases h : (splitP p).2 = 0
  · exact .inl (Prod.ext rfl h)
  · obtain ⟨h1, h2 | h2⟩ := splitP_err h
    · exact .inr (.inl (Prod.ext h1 h2))
    · exact .inr (.inr (Prod.ext h1 h2))

end Go.Proofs.YtppdihpobokfnaaGreatDoor

set_option linter.unusedVariables false
namespace Go.Proofs.YtppdihpobokfnaaGreatDoor
open Go Go.RowKit Go.ChangeShapes Go.WideShapes Go.ChangeAt

/-- an argument as it came in: its cells' make, its reading, and how much memory it takes -/
def Got (P : Program) (W : World) (t : TypeId) (v : Value) : Prop :=
  ∃ (base : Nat) (H : Type) (enc : TypeId × Value → H) (d : DataW H) (ps : List MemPlace),
    Value.okWide P W .any base t v ∧ DataW.Trod enc P W 0 (fun _ => true) true t v d ps ∧ ∀ x ∈ d.weights P t, x ≤ reachBytes

def GotAll (P : Program) (W : World) : List TypeId → List Value → Prop
  | [], [] => True
  | t :: ts, v :: vs => Got P W t v ∧ GotAll P W ts vs
  | _, _ => False

section
variable {P : Program} {W : World} {H : Type} {enc : TypeId × Value → H}

theorem gotAll_of {base : Nat} : ∀ (ts : List TypeId) (vs : List Value) (ds : List (DataW H)) (ps : List MemPlace),
    (∀ (j : Nat) t v, ts[j]? = some t → vs[j]? = some v → Value.okWide P W .any base t v) →
    DataW.TrodAll enc P W 0 (fun _ => true) true ts vs ds ps →
    (∀ x ∈ DataW.weightsEach P ts ds, x ≤ reachBytes) → GotAll P W ts vs
  | [], [], [], _, _, _, _ => trivial
  | t :: ts, v :: vs, d :: ds, ps, hv, ht, hw => by
    obtain ⟨p, q, h1, h2, rfl⟩ := ht
    simp only [DataW.weightsEach, List.mem_append] at hw
    exact ⟨⟨base, H, enc, d, p, hv 0 t v rfl rfl, h1, fun x hx => hw x (.inl hx)⟩,
      gotAll_of ts vs ds q (fun j t' v' h h' => hv (j + 1) t' v' (by simpa using h) (by simpa using h')) h2 (fun x hx => hw x (.inr hx))⟩
  | [], [], _ :: _, _, _, ht, _ => ht.elim
  | [], _ :: _, _, _, _, ht, _ => ht.elim
  | _ :: _, [], _, _, _, ht, _ => ht.elim
  | _ :: _, _ :: _, [], _, _, ht, _ => ht.elim

/-- arguments read as they did, behind a walk that turned nothing -/
theorem trodAll_below (hl : laidOutB P = true) {W' : World} (hb : Below W.heap.size W W') :
    ∀ (ts : List TypeId) (vs : List Value) (ds : List (DataW H)) (ps : List MemPlace), (∀ t ∈ ts, P.readableRec t = true ∧ t < P.types.size) →
    DataW.TrodAll enc P W 0 (fun _ => true) true ts vs ds ps → DataW.TrodAll enc P W' 0 (fun b => decide (b < W.heap.size)) true ts vs ds ps
  | [], [], [], _, _, ht => ht
  | t :: ts, v :: vs, d :: ds, ps, hr, ht => by
    obtain ⟨p, q, h1, h2, rfl⟩ := ht
    have hlt : ∀ x ∈ p, x.block < W.heap.size := by obtain ⟨m, hm⟩ := h1; exact DataW.trod_lt m _ _ _ hm
    exact ⟨p, q, Below.trod hl (hr t (List.mem_cons_self ..)).1 (hr t (List.mem_cons_self ..)).2 h1 hb hlt, trodAll_below hl hb ts vs ds q (fun u hu => hr u (List.mem_cons_of_mem _ hu)) h2, rfl⟩
  | [], [], _ :: _, _, _, ht => ht.elim
  | [], _ :: _, _, _, _, ht => ht.elim
  | _ :: _, [], _, _, _, ht => ht.elim
  | _ :: _, _ :: _, [], _, _, ht => ht.elim

theorem trodAll_length : ∀ {w : World} {b : Nat} {sp : Nat → Bool} {hd : Bool} (ts : List TypeId) (vs : List Value) (ds : List (DataW H)) (ps : List MemPlace), DataW.TrodAll enc P w b sp hd ts vs ds ps → ds.length = ts.length
  | _, _, _, _, [], [], [], _, _ => rfl
  | _, _, _, _, t :: ts, v :: vs, d :: ds, ps, ht => by
    obtain ⟨p, q, h1, h2, rfl⟩ := ht
    simp [trodAll_length ts vs ds q h2]
  | _, _, _, _, [], [], _ :: _, _, ht => ht.elim
  | _, _, _, _, [], _ :: _, _, _, ht => ht.elim
  | _, _, _, _, _ :: _, [], _, _, ht => ht.elim
  | _, _, _, _, _ :: _, _ :: _, [], _, ht => ht.elim
end

/-- THE FRAME -/
theorem law_step {C : Checked} {os : Os} {f : FuncId} {fn : Func} {s : ChangeSpec} {H : Type} {enc : TypeId × Value → H} (own : ownKnob C.prog.godebug = none) (laid : laidOutB C.prog = true) (started : os.Started)
    (noInit : C.prog.inits.idxOf? f = none) (hfn : C.prog.funcs[f]? = some fn) {tb : TypeId} (hres : fn.resultTypes = #[tb]) (htb : C.prog.underlying tb = some .bool)
    (hvars : s.vars = []) (hfnv : ∀ ds : List (DataW H), ds.length = fn.params.size → s.fn H (ds ++ []) = { results := [.lit (.bool true)], args := ds })
    (hread : ∀ t ∈ fn.params.toList, C.prog.readableRec t = true ∧ t < C.prog.types.size)
    (witness : ∃ (w : World) (tape : Tape) (i : Input), w.os = os ∧ (w.forCall tape i).Shaped C.prog ∧ i.vars = [] ∧ Input.okWide C.prog (w.forCall tape i) .any w.heap.size f i ∧
      s.pre6 enc C.prog fn [] false (w.forCall tape i).memory i.args ∧ ({} : Assume).holds C.prog (lone (Frame.enter C.prog f i.args .normal) [] (w.forCall tape i)))
    (walk : ∀ (W : World) (args : Array Value), GotAll C.prog W fn.params.toList args.toList →
      Calls C.prog f args W fun e W' => e = .returned (.bool true) ∧ Below W.heap.size W W') :
    ReturnsInHanded {} C os f .any (s.pre6 enc C.prog fn [] false) (s.post enc C.prog fn false true false false) := by
  refine returnsInHanded_of_change_sized (C := C) own started noInit hfn witness ?_
  intro W base args ds gs before hval hW _ hsz _
  have hW' := hW
  obtain ⟨p, q, hA, hV, rfl, hfz, hnd⟩ := hW
  rw [hvars] at hV
  obtain ⟨rfl, rfl⟩ : gs = [] ∧ q = [] := by
    cases gs with
    | nil => exact ⟨rfl, hV⟩
    | cons g gs => exact hV.elim
  have hlen := trodAll_length _ _ _ _ hA
  have hvt : s.plain.varTypes C.prog = [] := by
    simp [DataSpec.varTypes, ChangeSpec.plain, hvars]
  have hw : ∀ x ∈ DataW.weightsEach C.prog fn.params.toList ds, x ≤ reachBytes := by
    rw [hvt] at hsz
    simp only [List.append_nil, List.all_eq_true, decide_eq_true_eq] at hsz
    exact hsz
  have hG : GotAll C.prog W fn.params.toList args.toList := gotAll_of (base := base) (enc := enc) _ _ ds p (fun j t v ht hv => hval j t v (by simpa using ht) (by simpa using hv)) hA hw
  refine (walk W args hG).mono fun e W' ⟨he, hb⟩ => ?_
  subst he
  have es := hfnv ds (by rw [hlen]; simp)
  refine ⟨_, rfl, ds, [], p ++ [], [], p, [], hW', ?_, ?_, ?_, hb.frame _, fun h => by cases h⟩
  · rw [es, hres]
    exact trodAll_mk1 (shut_bool htb _)
  · rw [es]
    exact trodAll_below laid hb _ _ _ _ hread hA
  · rw [es, hvars]
    rfl

/-! ### opening what came in -/

section
variable {P : Program} {W : World} {t : TypeId} {v : Value}

theorem got_int {k : IntKind} (ht : P.underlying t = some (.int k)) (h : Got P W t v) : ∃ n, v = .int k n ∧ (Lit.int k n).wf = true := by
  obtain ⟨base, H, enc, d, ps, h1, h2, _⟩ := h
  obtain ⟨n, e, _, _, hw⟩ := open_int ht h1 h2
  exact ⟨n, e, hw⟩

theorem got_i64 (ht : P.underlying t = some (.int .i64)) (h : Got P W t v) : ∃ n, v = .int .i64 n ∧ -9223372036854775808 ≤ n ∧ n ≤ 9223372036854775807 := by
  obtain ⟨n, e, hw⟩ := got_int ht h
  have := bounds_i64 hw
  exact ⟨n, e, this.1, this.2⟩

theorem got_u64 (ht : P.underlying t = some (.int .u64)) (h : Got P W t v) : ∃ n, v = .int .u64 n ∧ 0 ≤ n ∧ n ≤ 18446744073709551615 := by
  obtain ⟨n, e, hw⟩ := got_int ht h
  have := bounds_u64 hw
  exact ⟨n, e, this.1, this.2⟩

theorem got_u8 (ht : P.underlying t = some (.int .u8)) (h : Got P W t v) : ∃ n, v = .int .u8 n ∧ 0 ≤ n ∧ n ≤ 255 := by
  obtain ⟨n, e, hw⟩ := got_int ht h
  have := bounds_u8 hw
  exact ⟨n, e, this.1, this.2⟩

theorem got_string (ht : P.underlying t = some .string) (h : Got P W t v) : ∃ s, v = .string s ∧ s.size ≤ 140737488351232 := by
  obtain ⟨base, H, enc, d, ps, h1, h2, h3⟩ := h
  obtain ⟨s, e, ed, _, _⟩ := Go.ChangeMaps.open_string ht h1 h2
  subst ed
  refine ⟨s, e, ?_⟩
  have := h3 s.data.toList.length (by simp [DataW.weights])
  simpa [reachBytes] using this

theorem size_le_maxLen {s : ByteArray} (h : s.size ≤ 140737488351232) : s.size ≤ maxLen := by unfold maxLen; omega

/-- is a type a struct or an array of n ints of one kind? -/
def flatB (P : Program) (t : TypeId) (k : IntKind) (n : Nat) : Bool :=
  (match P.underlying t with | some (.struct _) => true | some (.array _ _) => true | _ => false) &&
  (match P.cellTypes P.depth t with | some ts => ts.length == n && ts.all (fun u => match P.underlying u with | some (.int k') => k' == k | _ => false) | none => false) && P.cellsOf t == n

/-- a struct or an array all of whose cells are ints of one kind -/
theorem got_flat {k : IntKind} {n : Nat} (hB : flatB P t k n = true) (h : Got P W t v) :
    ∃ zs : List Int, v = .agg (zs.map (Value.int k)).toArray ∧ zs.length = n ∧ ∀ z ∈ zs, k.has z := by
  simp only [flatB, Bool.and_eq_true, beq_iff_eq] at hB
  obtain ⟨⟨hs, hT⟩, hc⟩ := hB
  obtain ⟨ts, hts, hn, hall⟩ : ∃ ts, P.cellTypes P.depth t = some ts ∧ ts.length = n ∧ ts.all (fun u => match P.underlying u with | some (.int k') => k' == k | _ => false) = true := by
    cases hq : P.cellTypes P.depth t with
    | none => rw [hq] at hT; simp at hT
    | some ts =>
      rw [hq] at hT
      simp only [Bool.and_eq_true, beq_iff_eq] at hT
      exact ⟨ts, rfl, hT.1, hT.2⟩
  obtain ⟨base, H, enc, d, ps, h1, _, _⟩ := h
  have hag : ∃ cs, v = .agg cs ∧ cs.size = P.cellsOf t ∧ Row.okWide P W .any base t cs := by
    cases hu : P.underlying t with
    | none => rw [hu] at hs; simp at hs
    | some d =>
      rw [hu] at hs
      simp only [Value.okWide, hu] at h1
      cases d <;> first | exact h1 | simp at hs
  obtain ⟨cs, rfl, hsz, ts', hts', _, hcell⟩ := hag
  rw [hts] at hts'
  obtain rfl : ts = ts' := by injection hts'
  have hk : ∀ i (hi : i < cs.size), ∃ z, cs[i] = .int k z ∧ k.has z := by
    intro i hi
    obtain ⟨u, hu, hok⟩ := hcell i cs[i] (by simp [hi])
    have hmem : u ∈ ts := List.mem_of_getElem? hu
    have := List.all_eq_true.1 hall u hmem
    cases hd : P.underlying u with
    | none => rw [hd] at this; simp at this
    | some d =>
      rw [hd] at this
      cases d <;> simp at this
      subst this
      simp only [Cell.okWide, hd] at hok
      generalize cs[i] = c at hok
      cases c <;> simp [Cell.ok, hd] at hok
      rename_i k' z
      exact ⟨z, by rw [hok.1], hok.2⟩
  refine ⟨cs.toList.map fun c => match c with | .int _ z => z | _ => 0, ?_, by simp [hsz, hc], ?_⟩
  · congr 1
    apply Array.ext
    · simp
    · intro i h1 h2
      obtain ⟨z, hz, _⟩ := hk i h1
      simp [hz]
  · intro z hz
    simp only [List.mem_map] at hz
    obtain ⟨c, hc', rfl⟩ := hz
    obtain ⟨i, hi, rfl⟩ := List.getElem_of_mem hc'
    obtain ⟨z, hz, hh⟩ := hk i (by simpa using hi)
    simp only [Array.getElem_toList, hz]
    exact hh

theorem has_i64 {z : Int} (h : IntKind.i64.has z) : -9223372036854775808 ≤ z ∧ z ≤ 9223372036854775807 := by
  simp only [IntKind.has, IntKind.min, IntKind.max, IntKind.signed, IntKind.bits] at h
  simpa using h
theorem has_u64 {z : Int} (h : IntKind.u64.has z) : 0 ≤ z ∧ z ≤ 18446744073709551615 := by
  simp only [IntKind.has, IntKind.min, IntKind.max, IntKind.signed, IntKind.bits] at h
  simpa using h
theorem has_u8 {z : Int} (h : IntKind.u8.has z) : 0 ≤ z ∧ z ≤ 255 := by
  simp only [IntKind.has, IntKind.min, IntKind.max, IntKind.signed, IntKind.bits] at h
  simpa using h

end

section
variable {P : Program} {W : World}
theorem gotAll_args1 {a : TypeId} {args : Array Value} (h : GotAll P W [a] args.toList) : ∃ v0, args = #[v0] ∧ Got P W a v0 := by
  obtain ⟨l⟩ := args
  match l, h with
  | [v0], h => exact ⟨v0, rfl, h.1⟩
theorem gotAll_args2 {a b : TypeId} {args : Array Value} (h : GotAll P W [a, b] args.toList) : ∃ v0 v1, args = #[v0, v1] ∧ Got P W a v0 ∧ Got P W b v1 := by
  obtain ⟨l⟩ := args
  match l, h with
  | [v0, v1], h => exact ⟨v0, v1, rfl, h.1, h.2.1⟩
theorem gotAll_args3 {a b c : TypeId} {args : Array Value} (h : GotAll P W [a, b, c] args.toList) : ∃ v0 v1 v2, args = #[v0, v1, v2] ∧ Got P W a v0 ∧ Got P W b v1 ∧ Got P W c v2 := by
  obtain ⟨l⟩ := args
  match l, h with
  | [v0, v1, v2], h => exact ⟨v0, v1, v2, rfl, h.1, h.2.1, h.2.2.1⟩
end

/-- a cell of a block that was laid ahead of a call -/
theorem new_cell {w w1 : World} {C : Array Value} {T : TypeId} (hb : Below (w.alloc (.cells C T)).heap.size (w.alloc (.cells C T)) w1) (i : Nat) {v : Value} (h : C[i]? = some v) : w1.cell? ⟨w.heap.size, i, none⟩ = some v := by
  rw [hb.cell (p := ⟨w.heap.size, i, none⟩) (by simp), World.cell?_alloc_new]
  exact h
end Go.Proofs.YtppdihpobokfnaaGreatDoor

set_option linter.unusedVariables false
namespace Go.Proofs.YtppdihpobokfnaaGreatDoor
open Go Go.RowKit Go.Joins

section
variable {w w1 : World} {C D : Array Value} {T U : TypeId} {v : Value}

theorem new_cell_a (hb : Below ((w.alloc (.cells C T)).alloc (.cells D U)).heap.size ((w.alloc (.cells C T)).alloc (.cells D U)) w1) (i : Nat) (h : C[i]? = some v) : w1.cell? ⟨w.heap.size, i, none⟩ = some v := by
  rw [hb.cell (p := ⟨w.heap.size, i, none⟩) (by simp; omega), World.cell?_alloc_old _ _ _ (by simp), World.cell?_alloc_new]
  exact h

theorem new_cell_b (hb : Below ((w.alloc (.cells C T)).alloc (.cells D U)).heap.size ((w.alloc (.cells C T)).alloc (.cells D U)) w1) (i : Nat) (h : D[i]? = some v) : w1.cell? ⟨w.heap.size + 1, i, none⟩ = some v := by
  rw [hb.cell (p := ⟨w.heap.size + 1, i, none⟩) (by simp)]
  have := World.cell?_alloc_new (w := w.alloc (.cells C T)) D U i
  simp only [World.size_alloc] at this
  rw [this]
  exact h
end

/-- a chain of worlds, each below the last one's heap -/
theorem below_chain {B : Nat} {w a b : World} (h : Below B w a) (hb : Below a.heap.size a b) (hB : B ≤ a.heap.size) : Below B w b := h.trans (below_le hb hB)

end Go.Proofs.YtppdihpobokfnaaGreatDoor

set_option linter.unusedVariables false
namespace Go.Proofs.YtppdihpobokfnaaGreatDoor
open Go Go.RowKit

/-- bytes 0 -/
def zerosB (n : Nat) : ByteArray := ⟨(List.replicate n (0 : UInt8)).toArray⟩
theorem zerosB_size (n : Nat) : (zerosB n).size = n := by simp [zerosB, ByteArray.size]

section
variable {w : World} {P : Program}

/-- an owned slice's row -/
theorem rowAt_own {base : Nat} {e : TypeId} {size g n cap : Nat} {xs : List Value} (h : w.ownsRow base e size (.slice (some ⟨g, 0, none⟩) n cap) n xs) (hx : xs.length = n * size) (hlt : g < w.heap.size) : RowAt w g xs := by
  have hc := fun j (hj : j < xs.length) => h.cellAt j (by rw [← hx]; exact hj)
  have hz := fun j => h.frozenAt j
  cases hb : w.heap[g]? with
  | none => simp at hb; omega
  | some o =>
    cases o with
    | cells C e' fr =>
      obtain ⟨lo, hi⟩ := fr
      refine ⟨C, e', lo, hi, hb, fun i hi' => ?_, fun i hi' c => ?_⟩
      · have := hc i hi'
        simpa [World.cell?, hb] using this
      · have := hz i
        simp [World.frozen?, hb] at this
        omega
    | _ =>
      cases xs with
      | nil => exact absurd (h.2.elim (fun c => by simp at c) (fun ⟨_, _, _, hv, _, hh, _⟩ => by simp at hv; obtain ⟨rfl, _⟩ := hv; rw [hb] at hh; cases hh)) id
      | cons x r =>
        have := hc 0 (by simp)
        simp [World.cell?, hb] at this

/-- make([]byte, n) -/
theorem make_bytes (w : World) (t e : TypeId) (i : TypeInfo) (ht : P.underlying t = some (.slice e)) (hi : P.info? e = some i) (hz : i.zero = some (.int .u8 0)) (hs : i.size = 1) (hb : i.bytes = 1) (n : Nat) (hn : n ≤ 140737488355328) :
    ∃ W1, (Instr.makeSlice t (.int .i64 (n : Int)) (.int .i64 (n : Int))).run P w = .ok (.slice (some ⟨w.heap.size, 0, none⟩) n n) W1 ∧ Below w.heap.size w W1 ∧ RowAt W1 w.heap.size (bcells (List.replicate n 0)) := by
  obtain ⟨W1, h1, h2, h3⟩ := run_make_full (P := P) w w.heap.size t e i (.int .u8 0) 1 ht hi hz hs .i64 .i64 n (by rw [hb]; omega) (by unfold maxLen; omega) (Nat.le_refl _)
  refine ⟨W1, h1, ⟨h3.os, h3.tape, h3.output, h3.size, fun k hk => h3.block k hk (by simp)⟩, ?_⟩
  have e1 : (madeCells (Value.int .u8 0).cells (n * 1)).toList = bcells (List.replicate n 0) := by
    rw [Nat.mul_one]
    show (madeCells #[.int .u8 0] n).toList = _
    rw [toList_madeCells_one]
    simp [bcells]
  rw [e1] at h2
  refine rowAt_own h2 (by simp [bcells]) ?_
  have := World.ownsRow.lt h2 w.heap.size rfl
  exact this.2
end

end Go.Proofs.YtppdihpobokfnaaGreatDoor

set_option linter.unusedVariables false
namespace Go.Proofs.YtppdihpobokfnaaGreatDoor
open Go Go.RowKit

theorem step_append_own {P : Program} {ops : Array Oper} {o : Oper} {a : Act} {w : World} {K : Act → World → Prop} {Q : Exit → Act → World → Prop} {E : Prop}
    (hg : o.guard = none) (s x : Operand) (t : TypeId) (hop : o.op = Op.call { callee := Callee.builtin Builtin.append, args := #[s, x], argTypes := #[t, t] })
    (base : Nat) (e : TypeId) (i : TypeInfo) (z : Value) (size bytes : Nat) (ht : P.underlying t = some (.slice e)) (hi : P.info? e = some i) (hz : i.zero = some z)
    (hsize : i.size = size) (hby : i.bytes = bytes) (hzs : z.cells.size = size) (hsz : 0 < size)
    (v : Value) (n : Nat) (xs : List Value) (hs : a.eval s = v) (hown : w.ownsRow base e size v n xs)
    (ad : Addr) (m c : Nat) (news : List Value) (hx : a.eval x = .slice (some ad) m c) (hl : news.length = m * size) (hnews : ∀ j u, news[j]? = some u → w.cell? (ad.add j) = some u) (h1 : ∀ u ∈ news, u.oneCell' = true)
    (h63 : n + m ≤ maxLen) (hbytes : (n + m) * bytes ≤ 140737488355328) (hbase : base ≤ w.heap.size)
    (hK : ∀ v' w', w'.ownsRow base e size v' (n + m) (xs ++ news) → w.grownBy w' v.ownBlock → K (a.put o.dst v') w') :
    if Region.wanted o (yielded ops a.tmps) = true then Oper.wp P o a w K Q else E := by
  have hw : Region.wanted o (yielded ops a.tmps) = true := by simp [Region.wanted, hg]
  rw [if_pos hw]
  exact wp_append_own w s x t hop base e i z size bytes ht hi hz hsize hby hzs hsz v n xs hs hown ad m c news hx hl hnews h1 h63 hbytes hbase fun v' w' h2 h3 _ => hK v' w' h2 h3

theorem own_form {w : World} {base : Nat} {e : TypeId} {size : Nat} {v : Value} {n : Nat} {xs : List Value} (h : w.ownsRow base e size v n xs) : ∃ a cap, v = .slice a n cap := by
  rcases h.2 with ⟨rfl, rfl⟩ | ⟨g, cap, cur, rfl, _⟩
  · exact ⟨none, 0, rfl⟩
  · exact ⟨_, cap, rfl⟩

theorem RowAt.grown {w w' : World} {b : Nat} {xs : List Value} {row : Option Nat} (h : RowAt w b xs) (hg : w.grownBy w' row) (hr : row ≠ some b) : RowAt w' b xs :=
  h.same (hg.block b h.lt (fun e => hr e.symm))

theorem own_other {w : World} {base : Nat} {e : TypeId} {size : Nat} {v : Value} {n : Nat} {xs : List Value} (h : w.ownsRow base e size v n xs) (p : Addr) (u : Value) (hp : p.block < base) : (w.setCell p u).ownsRow base e size v n xs := by
  refine ⟨h.1, ?_⟩
  rcases h.2 with h0 | ⟨g, cap, cur, hv, hg, hh, r⟩
  · exact .inl h0
  · exact .inr ⟨g, cap, cur, hv, hg, by rw [Below.heap_setCell _ _ _ _ (by omega)]; exact hh, r⟩

end Go.Proofs.YtppdihpobokfnaaGreatDoor

set_option linter.unusedVariables false
set_option linter.unusedSimpArgs false
namespace Go.Proofs.YtppdihpobokfnaaGreatDoor
open Go Go.RowKit Go.Joins Go.ChangeShapes Go.WideShapes Go.Deep

/-- a slice at an address holds these cells -/
def ValAt (w : World) (B o : Nat) (vs : List Value) : Prop := B < w.heap.size ∧ ∀ i u, vs[i]? = some u → w.cell? ⟨B, o + i, none⟩ = some u
/-- a slice holds these cells -/
def ValS (w : World) (a : Option Addr) (vs : List Value) : Prop := vs = [] ∨ ∃ B o, a = some ⟨B, o, none⟩ ∧ ValAt w B o vs

section
variable {w w' : World} {a : Option Addr} {vs : List Value} {B o : Nat}

theorem ValAt.below {K : Nat} (h : ValAt w B o vs) (hb : Below K w w') (hK : B < K) : ValAt w' B o vs := by
  have hs : w'.heap[B]? = w.heap[B]? := hb.block B hK
  refine ⟨by have := h.1; have := hb.size; omega, fun i u hu => ?_⟩
  have := h.2 i u hu
  unfold World.cell? at *
  simp only [hs]
  exact this

theorem ValS.below {K : Nat} (h : ValS w a vs) (hb : Below K w w') (hK : w.heap.size ≤ K) : ValS w' a vs := by
  rcases h with rfl | ⟨B, o, rfl, h⟩
  · exact .inl rfl
  · exact .inr ⟨B, o, rfl, h.below hb (by have := h.1; omega)⟩
theorem ValS.drew (h : ValS w a vs) : ValS w.drew a vs := h
theorem ValAt.drew (h : ValAt w B o vs) : ValAt w.drew B o vs := h
theorem ValS.alloc (h : ValS w a vs) (ob : Obj) : ValS (w.alloc ob) a vs := h.below ((Below.refl _ _).alloc (Nat.le_refl _) ob) (Nat.le_refl _)
theorem ValAt.alloc (h : ValAt w B o vs) (ob : Obj) : ValAt (w.alloc ob) B o vs := h.below ((Below.refl _ _).alloc (Nat.le_refl _) ob) h.1
theorem ValS.nil : ValS w a [] := .inl rfl

theorem valAt_row {g : Nat} (h : RowAt w g vs) : ValAt w g 0 vs := by
  refine ⟨h.lt, fun i u hu => ?_⟩
  have hl : i < vs.length := (List.getElem?_eq_some_iff.1 hu).1
  rw [Nat.zero_add, h.cell i hl, hu]

/-- a slice of new memory that holds these cells -/
def NewS (w : World) (base : Nat) (a : Option Addr) (vs : List Value) : Prop := vs = [] ∨ ∃ g, a = some ⟨g, 0, none⟩ ∧ base ≤ g ∧ RowAt w g vs
theorem NewS.vals {base : Nat} (h : NewS w base a vs) : ValS w a vs := by
  rcases h with rfl | ⟨g, rfl, _, hr⟩
  · exact .inl rfl
  · exact .inr ⟨g, 0, rfl, valAt_row hr⟩
theorem NewS.below {base K : Nat} (h : NewS w base a vs) (hb : Below K w w') (hK : w.heap.size ≤ K) : NewS w' base a vs := by
  rcases h with rfl | ⟨g, rfl, h1, hr⟩
  · exact .inl rfl
  · exact .inr ⟨g, rfl, h1, hr.below hb (by have := hr.lt; omega)⟩
theorem NewS.other {base : Nat} (h : NewS w base a vs) (p : Addr) (v : Value) (hp : p.block < base) : NewS (w.setCell p v) base a vs := by
  rcases h with rfl | ⟨g, rfl, h1, hr⟩
  · exact .inl rfl
  · exact .inr ⟨g, rfl, h1, hr.other _ _ (by omega)⟩
theorem NewS.less {base base' : Nat} (h : NewS w base a vs) (hp : base' ≤ base) : NewS w base' a vs := by
  rcases h with rfl | ⟨g, rfl, h1, hr⟩
  · exact .inl rfl
  · exact .inr ⟨g, rfl, by omega, hr⟩

/-- an owned slice whose elements are one cell -/
theorem own_news {base : Nat} {e : TypeId} {v : Value} {n : Nat} (h : w.ownsRow base e 1 v n vs) : ∃ a cap, v = .slice a n cap ∧ NewS w base a vs ∧ n = vs.length := by
  have hl : n = vs.length := by have := h.1; omega
  rcases h.2 with ⟨rfl, h0⟩ | ⟨g, cap, cur, rfl, hg, _⟩
  · refine ⟨none, 0, by rw [h0], .inl ?_, hl⟩
    exact List.length_eq_zero_iff.1 (by omega)
  · exact ⟨_, cap, rfl, .inr ⟨g, rfl, hg, rowAt_own h h.1 (h.lt g rfl).2⟩, hl⟩
end

theorem addr_add (b o i : Nat) : (⟨b, o, none⟩ : Addr).add i = ⟨b, o + i, none⟩ := by
  unfold Addr.add
  by_cases c : i = 0
  · subst c; rfl
  · simp [c]

theorem vals_news {w : World} {ad : Addr} {vs : List Value} (h : ValS w (some ad) vs) : ∀ j u, vs[j]? = some u → w.cell? (ad.add j) = some u := by
  rcases h with rfl | ⟨B, o, e, h⟩
  · intro j u hj; cases hj
  · injection e with e
    subst e
    intro j u hj
    rw [addr_add]
    exact h.2 j u hj

/-- opening: a slice whose elements are one cell each, each of a kind -/
theorem trod_vals {H : Type} {enc : TypeId × Value → H} {P : Program} {w : World} {base : Nat} {spare : Nat → Bool} {held : Bool} {α : Type} [Inhabited α] {t e : TypeId} {fuel : Nat} {cs : List Value} {x : DataW H × List MemPlace} (f : α → Value) (Q : α → Prop)
    (ht : P.underlying t = some (.slice e)) (hC : P.cellsOf e = 1)
    (hel : ∀ n v y, DataW.trod enc P w base spare held n e [v] = some y → ∃ z : α, v = f z ∧ Q z)
    (h : DataW.trod enc P w base spare held fuel t cs = some x) :
    ∃ a cap zs, cs = [.slice a (List.length zs) cap] ∧ zs.length ≤ cap ∧ cap ≤ maxLen ∧ ValS w a (zs.map f) ∧ (∀ z ∈ zs, Q z) ∧ (a = none → cap = 0) := by
  rcases open_slice1 ht hC h with ⟨rfl, _⟩ | ⟨a, len, cap, m, n, V, D, Pl, rfl, hb, hl, hm, hmm, rfl, hx⟩
  · exact ⟨none, 0, [], rfl, Nat.le_refl _, by simp, .inl rfl, (fun z hz => by cases hz), fun _ => rfl⟩
  · have hlm : len ≤ m := by rw [hmm]; split <;> omega
    have each : ∀ i, i < len → ∃ z : α, V i = f z ∧ Q z := fun i hi => hel n (V i) _ (hx i (by omega)).2
    obtain ⟨q, hq⟩ := choose_lt each
    have hlen : ((List.range len).map q).length = len := by simp
    refine ⟨some a, cap, (List.range len).map q, by rw [hlen], by rw [hlen]; exact hl, hm, ?_, ?_, fun h => by cases h⟩
    · by_cases hz : len = 0
      · subst hz; exact .inl rfl
      · obtain ⟨e0, _⟩ := hx 0 (by omega)
        have e0' : w.cell? a = some (V 0) := e0
        have ha : a = ⟨a.block, a.off, none⟩ ∧ a.block < w.heap.size := by
          obtain ⟨b, o, sp⟩ := a
          unfold World.cell? at e0'
          have hl : b < w.heap.size := by
            rcases Nat.lt_or_ge b w.heap.size with h' | h'
            · exact h'
            · simp [Array.getElem?_eq_none h'] at e0'
          refine ⟨?_, hl⟩
          cases sp with
          | none => rfl
          | some s =>
            cases hh : w.heap[b]? with
            | none => simp [hh] at e0'
            | some o' => cases o' <;> simp [hh] at e0'
        refine .inr ⟨a.block, a.off, by rw [← ha.1], ha.2, fun i u hu => ?_⟩
        have hi : i < len := by
          have := (List.getElem?_eq_some_iff.1 hu).1
          simpa using this
        have hc := (hx i (by omega)).1
        rw [ha.1, addr_add] at hc
        rw [hc, (hq i hi).1]
        rw [← hu]
        simp [hi]
    · intro z hz
      simp only [List.mem_map, List.mem_range] at hz
      obtain ⟨i, hi, rfl⟩ := hz
      exact (hq i hi).2

end Go.Proofs.YtppdihpobokfnaaGreatDoor

set_option linter.unusedVariables false
set_option linter.unusedSimpArgs false
namespace Go.Proofs.YtppdihpobokfnaaGreatDoor
open Go Go.RowKit

theorem own_full4 {w : World} {base : Nat} {e : TypeId} {size : Nat} {v : Value} {n : Nat} {xs : List Value} (h : w.ownsRow base e size v n xs) (hn : 0 < n) : ∃ g cap, v = .slice (some ⟨g, 0, none⟩) n cap ∧ base ≤ g ∧ n ≤ cap ∧ RowAt w g xs := by
  rcases h.2 with ⟨_, h2⟩ | ⟨g, cap, cur, rfl, hg, hh, hc, r⟩
  · omega
  · exact ⟨g, cap, rfl, hg, hc, rowAt_own h h.1 (h.lt g rfl).2⟩

theorem step_append_none4 {P : Program} {ops : Array Oper} {o : Oper} {a : Act} {w : World} {K : Act → World → Prop} {Q : Exit → Act → World → Prop} {E : Prop}
    (hg : o.guard = none) (s x : Operand) (t : TypeId) (hop : o.op = Op.call { callee := Callee.builtin Builtin.append, args := #[s, x], argTypes := #[t, t] })
    (base : Nat) (e : TypeId) (i : TypeInfo) (size : Nat) (ht : P.underlying t = some (.slice e)) (hi : P.info? e = some i)
    (v : Value) (n : Nat) (xs : List Value) (hs : a.eval s = v) (hown : w.ownsRow base e size v n xs) (hx : a.eval x = .slice none 0 0)
    (hK : K (a.put o.dst v) w) :
    if Region.wanted o (yielded ops a.tmps) = true then Oper.wp P o a w K Q else E := by
  have hw : Region.wanted o (yielded ops a.tmps) = true := by simp [Region.wanted, hg]
  rw [if_pos hw]
  have hrun := run_append_owned_none (w := w) (P := P) base t o.type e i size ht hi v n xs hown
  unfold Oper.wp
  simp [execOp, hop, resolve, invoke, builtin, hs, hx, hrun, Result.andThen]
  exact hK

theorem grown_below4 {w0 w w' : World} {row : Option Nat} {base : Nat} (h : Below base w0 w) (hg : w.grownBy w' row) (hr : ∀ k, row = some k → base ≤ k) (hB : base ≤ w.heap.size) : Below base w0 w' :=
  h.trans ⟨hg.os, hg.tape, hg.output, hg.size, fun k hk => hg.block k (by omega) (fun e => by have := hr k e.symm; omega)⟩

theorem row_news4 {w : World} {g : Nat} {xs : List Value} (h : RowAt w g xs) : ∀ j u, xs[j]? = some u → w.cell? ((⟨g, 0, none⟩ : Addr).add j) = some u := by
  intro j u hj
  have hl : j < xs.length := by
    rcases Nat.lt_or_ge j xs.length with c | c
    · exact c
    · rw [List.getElem?_eq_none c] at hj; cases hj
  rw [addr_add, Nat.zero_add, h.cell j hl, hj]

end Go.Proofs.YtppdihpobokfnaaGreatDoor

set_option linter.unusedVariables false
set_option linter.unusedSimpArgs false
set_option maxRecDepth 100000
namespace Go.Proofs.YtppdihpobokfnaaGreatDoor
open Go.RowKit Go.Joins Go.ChangeShapes Go.WideShapes Go.Deep

/-- an int of 64 bits -/
def i64B (z : Int) : Prop := -9223372036854775808 ≤ z ∧ z ≤ 9223372036854775807

section
variable {H : Type} {enc : TypeId × Value → H} {P : Program} {w : World} {base : Nat} {spare : Nat → Bool} {held : Bool}

theorem trod_i64 {t : TypeId} {fuel : Nat} {v : Value} {x : DataW H × List MemPlace} (ht : P.underlying t = some (.int .i64)) (h : DataW.trod enc P w base spare held fuel t [v] = some x) : ∃ n, v = .int .i64 n ∧ i64B n := by
  obtain ⟨n, e, _, hw⟩ := DataW.trod_int ht h
  have := bounds_i64 hw
  exact ⟨n, by simpa using e, this.1, this.2⟩

theorem trod_u64 {t : TypeId} {fuel : Nat} {v : Value} {x : DataW H × List MemPlace} (ht : P.underlying t = some (.int .u64)) (h : DataW.trod enc P w base spare held fuel t [v] = some x) : ∃ n, v = .int .u64 n ∧ 0 ≤ n ∧ n ≤ 18446744073709551615 := by
  obtain ⟨n, e, _, hw⟩ := DataW.trod_int ht h
  have := bounds_u64 hw
  exact ⟨n, by simpa using e, this.1, this.2⟩
theorem trod_u32 {t : TypeId} {fuel : Nat} {v : Value} {x : DataW H × List MemPlace} (ht : P.underlying t = some (.int .u32)) (h : DataW.trod enc P w base spare held fuel t [v] = some x) : ∃ n, v = .int .u32 n ∧ 0 ≤ n ∧ n ≤ 4294967295 := by
  obtain ⟨n, e, _, hw⟩ := DataW.trod_int ht h
  have := bounds_u32 hw
  exact ⟨n, by simpa using e, this.1, this.2⟩

theorem trod_boolv {t : TypeId} {fuel : Nat} {v : Value} {x : DataW H × List MemPlace} (ht : P.underlying t = some .bool) (h : DataW.trod enc P w base spare held fuel t [v] = some x) : ∃ b, v = .bool b := by
  obtain ⟨b, e, _⟩ := DataW.trod_bool ht h
  exact ⟨b, by simpa using e⟩

theorem spot_of_cell {w : World} {a : Addr} {v : Value} (h : w.cell? a = some v) : a = ⟨a.block, a.off, none⟩ ∧ a.block < w.heap.size := by
  obtain ⟨b, o, sp⟩ := a
  unfold World.cell? at h
  have hl : b < w.heap.size := by
    rcases Nat.lt_or_ge b w.heap.size with h' | h'
    · exact h'
    · simp [Array.getElem?_eq_none h'] at h
  refine ⟨?_, hl⟩
  cases sp with
  | none => rfl
  | some s =>
    cases hh : w.heap[b]? with
    | none => simp [hh] at h
    | some o' => cases o' <;> simp [hh] at h

theorem open_agg6 {r : Reach} {b0 : Nat} {t : TypeId} {f0 f1 f2 f3 f4 f5 : Field} {v : Value} {d : DataW H} {p : List MemPlace} (hs : P.underlying t = some (.struct #[f0, f1, f2, f3, f4, f5])) (hone : oneCellFields P #[f0, f1, f2, f3, f4, f5] = true) (hC : P.cellsOf t = 6)
    (hv : Value.okWide P w r b0 t v) (h : DataW.Trod enc P w base spare held t v d p) :
    ∃ (v0 v1 v2 v3 v4 v5 : Value) (y0 y1 y2 y3 y4 y5 : DataW H × List MemPlace) (n : Nat), v = .agg #[v0, v1, v2, v3, v4, v5] ∧
      DataW.trod enc P w base spare held n f0.type [v0] = some y0 ∧ DataW.trod enc P w base spare held n f1.type [v1] = some y1 ∧ DataW.trod enc P w base spare held n f2.type [v2] = some y2 ∧ DataW.trod enc P w base spare held n f3.type [v3] = some y3 ∧ DataW.trod enc P w base spare held n f4.type [v4] = some y4 ∧ DataW.trod enc P w base spare held n f5.type [v5] = some y5 := by
  obtain ⟨cs, rfl, hsz⟩ := okWide_struct hs hv
  obtain ⟨l⟩ := cs
  match l, hsz.trans hC with
  | [c0, c1, c2, c3, c4, c5], _ =>
    obtain ⟨fuel, hf⟩ := h
    obtain ⟨xs, n, _, hx, _, hlen, hg⟩ := DataW.trod_struct hs hf
    obtain ⟨o0, k0⟩ := hone_of hone 0 f0 rfl
    obtain ⟨o1, k1⟩ := hone_of hone 1 f1 rfl
    obtain ⟨o2, k2⟩ := hone_of hone 2 f2 rfl
    obtain ⟨o3, k3⟩ := hone_of hone 3 f3 rfl
    obtain ⟨o4, k4⟩ := hone_of hone 4 f4 rfl
    obtain ⟨o5, k5⟩ := hone_of hone 5 f5 rfl
    match xs, hlen with
    | [y0, y1, y2, y3, y4, y5], _ =>
      exact ⟨c0, c1, c2, c3, c4, c5, y0, y1, y2, y3, y4, y5, n, rfl, by simpa [Value.cells, o0, k0] using hg 0 f0 rfl, by simpa [Value.cells, o1, k1] using hg 1 f1 rfl, by simpa [Value.cells, o2, k2] using hg 2 f2 rfl, by simpa [Value.cells, o3, k3] using hg 3 f3 rfl, by simpa [Value.cells, o4, k4] using hg 4 f4 rfl, by simpa [Value.cells, o5, k5] using hg 5 f5 rfl⟩
end


end Go.Proofs.YtppdihpobokfnaaGreatDoor

set_option linter.unusedVariables false
set_option linter.unusedSimpArgs false
namespace Go.Proofs.YtppdihpobokfnaaGreatDoor
open Go Go.RowKit

theorem next_any {P : Program} (W : World) (k : Nat) (s : ByteArray) (pos : Nat) (h : W.heap[k]? = some (.stringIter s pos)) (hp : pos < s.size) :
    ∃ W', (∀ ty, (Instr.next (.pointer (some ⟨k, 0, none⟩)) true ty).run P W = .ok (.tuple #[.bool true, .int .i64 pos, .int .i32 (Utf8.decode s pos).1]) W') ∧ W'.heap[k]? = some (.stringIter s (pos + (Utf8.decode s pos).2)) ∧ Below k W W' := by
  refine ⟨{ W with heap := W.heap.setIfInBounds k (.stringIter s (pos + (Utf8.decode s pos).2)) }, fun ty => ?_, ?_, ⟨rfl, rfl, rfl, by simp, fun j hj => ?_⟩⟩
  · simp only [Instr.next, getObj, setObj, Sem.run_bind, Sem.run, h, Result.andThen, hp, if_true]
    simp [goInt, Sem.run, h]
  · have hk : k < W.heap.size := (Array.getElem?_eq_some_iff.1 h).1
    simp [hk]
  · simp only
    rw [Array.getElem?_setIfInBounds_ne (by omega)]

theorem next_end {P : Program} (W : World) (k : Nat) (s : ByteArray) (pos : Nat) (h : W.heap[k]? = some (.stringIter s pos)) (hp : ¬ pos < s.size) :
    ∀ ty, (Instr.next (.pointer (some ⟨k, 0, none⟩)) true ty).run P W = .ok (.tuple #[.bool false]) W := by
  intro ty
  simp [Instr.next, getObj, Sem.run, h, hp]

/-- the bytes that a rune beyond ASCII skips are beyond ASCII -/
theorem decode_skip (s : ByteArray) (pos : Nat) (h : pos < s.size) (ha : 128 ≤ (s[pos]'h).toNat) : ∀ j, j < (Utf8.decode s pos).2 → 128 ≤ (s.get! (pos + j)).toNat := by
  have hn : ¬ (s[pos]'h).toNat < 128 := by omega
  have h0 : 128 ≤ (s.get! (pos + 0)).toNat := by rw [get_at s pos h]; exact ha
  intro j
  simp only [Utf8.decode, get_at s pos h, hn, if_false]
  repeat' split
  all_goals
    intro hj
    try simp only [Bool.and_eq_true, beq_iff_eq, decide_eq_true_eq, ge_iff_le] at *
    have hj4 : j = 0 ∨ j = 1 ∨ j = 2 ∨ j = 3 := by omega
    rcases hj4 with rfl | rfl | rfl | rfl <;> omega

/-- a rune lies within its text -/
theorem decode_fit (s : ByteArray) (pos : Nat) (h : pos < s.size) (ha : 128 ≤ (s[pos]'h).toNat) : pos + (Utf8.decode s pos).2 ≤ s.size := by
  have hn : ¬ (s[pos]'h).toNat < 128 := by omega
  simp only [Utf8.decode, get_at s pos h, hn, if_false]
  repeat' split
  all_goals
    try simp only [Bool.and_eq_true, beq_iff_eq, decide_eq_true_eq, ge_iff_le] at *
    omega

end Go.Proofs.YtppdihpobokfnaaGreatDoor

set_option linter.unusedVariables false
set_option linter.unusedSimpArgs false
namespace Go.Proofs.YtppdihpobokfnaaGreatDoor
open Go Go.RowKit

/-- a descriptor's slot: is it open? its node, its offset -/
structure Sl where
  o : Bool
  n : Int
  a : Int

def Sl.none : Sl := ⟨false, 0, 0⟩
theorem Sl.ext {x y : Sl} (h1 : x.o = y.o) (h2 : x.n = y.n) (h3 : x.a = y.a) : x = y := by
  cases x; cases y; simp_all

def scells (s : Sl) : List Value := [.bool s.o, .int .i64 s.n, .int .i64 s.a]
def tcells (m : Bool) (l : List Sl) : List Value := .bool m :: l.flatMap scells

theorem scells_len (l : List Sl) : (l.flatMap scells).length = 3 * l.length := by
  induction l with
  | nil => rfl
  | cons s r ih => rw [List.flatMap_cons, List.length_append, ih]; simp [scells]; omega
theorem tcells_len (m : Bool) (l : List Sl) : (tcells m l).length = 1 + 3 * l.length := by
  rw [tcells, List.length_cons, scells_len]; omega

theorem flat_get (l : List Sl) (k : Nat) (s : Sl) (h : l[k]? = some s) : (l.flatMap scells)[k * 3]? = some (.bool s.o) ∧ (l.flatMap scells)[k * 3 + 1]? = some (.int .i64 s.n) ∧ (l.flatMap scells)[k * 3 + 2]? = some (.int .i64 s.a) := by
  induction l generalizing k with
  | nil => simp at h
  | cons x r ih =>
    rw [List.flatMap_cons]
    cases k with
    | zero =>
      simp at h; subst h
      exact ⟨rfl, rfl, rfl⟩
    | succ k =>
      have hh := ih k (by simpa using h)
      have hl : (scells x).length = 3 := rfl
      have e : ∀ d, (k + 1) * 3 + d - 3 = k * 3 + d := by intro d; omega
      rw [List.getElem?_append_right (by rw [hl]; omega), List.getElem?_append_right (by rw [hl]; omega), List.getElem?_append_right (by rw [hl]; omega), hl, e, e]
      exact ⟨by have := e 0; simp at this; rw [this]; exact hh.1, hh.2.1, hh.2.2⟩

theorem tcell_get {m : Bool} {l : List Sl} {k : Nat} {s : Sl} (h : l[k]? = some s) : (tcells m l)[1 + k * 3]? = some (.bool s.o) ∧ (tcells m l)[1 + k * 3 + 1]? = some (.int .i64 s.n) ∧ (tcells m l)[1 + k * 3 + 2]? = some (.int .i64 s.a) := by
  obtain ⟨a, b, c⟩ := flat_get l k s h
  have e1 : 1 + k * 3 = k * 3 + 1 := by omega
  have e2 : 1 + k * 3 + 1 = (k * 3 + 1) + 1 := by omega
  have e3 : 1 + k * 3 + 2 = (k * 3 + 2) + 1 := by omega
  rw [e2, e3, e1, tcells, List.getElem?_cons_succ, List.getElem?_cons_succ, List.getElem?_cons_succ]
  exact ⟨a, b, c⟩

theorem flat_set (l : List Sl) (k : Nat) (s : Sl) (hk : k < l.length) : (((l.flatMap scells).set (k * 3) (.bool s.o)).set (k * 3 + 1) (.int .i64 s.n)).set (k * 3 + 2) (.int .i64 s.a) = (l.set k s).flatMap scells := by
  induction l generalizing k with
  | nil => simp at hk
  | cons x r ih =>
    cases k with
    | zero =>
      rw [List.set_cons_zero, List.flatMap_cons, List.flatMap_cons]
      rfl
    | succ k =>
      have hh := ih k (by simpa using hk)
      rw [List.set_cons_succ, List.flatMap_cons, List.flatMap_cons, ← hh]
      have hl : (scells x).length = 3 := rfl
      rw [List.set_append_right _ _ (by rw [hl]; omega), List.set_append_right _ _ (by rw [hl]; omega), List.set_append_right _ _ (by rw [hl]; omega), hl]
      have e0 : (k + 1) * 3 - 3 = k * 3 := by omega
      have e1 : (k + 1) * 3 + 1 - 3 = k * 3 + 1 := by omega
      have e2 : (k + 1) * 3 + 2 - 3 = k * 3 + 2 := by omega
      rw [e0, e1, e2]

theorem tcell_set (m : Bool) (l : List Sl) (k : Nat) (s : Sl) (hk : k < l.length) : (((tcells m l).set (1 + k * 3) (.bool s.o)).set (1 + k * 3 + 1) (.int .i64 s.n)).set (1 + k * 3 + 2) (.int .i64 s.a) = tcells m (l.set k s) := by
  have e1 : 1 + k * 3 = k * 3 + 1 := by omega
  have e2 : 1 + k * 3 + 1 = (k * 3 + 1) + 1 := by omega
  have e3 : 1 + k * 3 + 2 = (k * 3 + 2) + 1 := by omega
  rw [e2, e3, e1, tcells, tcells, List.set_cons_succ, List.set_cons_succ, List.set_cons_succ, flat_set l k s hk]

/-- the slot that a descriptor may open -/
def firstFree (l : List Sl) : Option Nat := l.findIdx? fun s => !s.o
/-- the open slot of a descriptor -/
def slotOf (l : List Sl) (fd : Int) : Option Sl := if 0 ≤ fd ∧ fd < 16 then (l[fd.toNat]?).filter (·.o) else none
theorem slotOf_some {l : List Sl} {fd : Int} {s : Sl} (h : slotOf l fd = some s) : 0 ≤ fd ∧ fd < 16 ∧ l[fd.toNat]? = some s ∧ s.o = true := by
  unfold slotOf at h
  split at h
  · rename_i hc
    rw [Option.filter_eq_some_iff] at h
    exact ⟨hc.1, hc.2, h.1, h.2⟩
  · cases h
theorem slotOf_none {l : List Sl} (hl : l.length = 16) {fd : Int} (h : slotOf l fd = none) : fd < 0 ∨ 16 ≤ fd ∨ (0 ≤ fd ∧ fd < 16 ∧ ∃ s, l[fd.toNat]? = some s ∧ s.o = false) := by
  by_cases c : 0 ≤ fd ∧ fd < 16
  · right; right
    refine ⟨c.1, c.2, l[fd.toNat]'(by omega), List.getElem?_eq_getElem _, ?_⟩
    rw [slotOf, if_pos c, List.getElem?_eq_getElem (by omega)] at h
    cases hh : (l[fd.toNat]'(by omega)).o with
    | false => rfl
    | true => simp [Option.filter, hh] at h
  · omega

theorem free_some {l : List Sl} {k : Nat} (h : firstFree l = some k) : k < l.length ∧ (∃ s, l[k]? = some s ∧ s.o = false) ∧ ∀ j < k, ∃ s, l[j]? = some s ∧ s.o = true := by
  rw [firstFree, List.findIdx?_eq_some_iff_getElem] at h
  obtain ⟨hk, h1, h2⟩ := h
  refine ⟨hk, ⟨l[k], List.getElem?_eq_getElem hk, by simpa using h1⟩, fun j hj => ⟨l[j]'(by omega), List.getElem?_eq_getElem (by omega), ?_⟩⟩
  have := h2 j hj
  simpa using this
theorem free_none {l : List Sl} (h : firstFree l = none) : ∀ j < l.length, ∃ s, l[j]? = some s ∧ s.o = true := by
  rw [firstFree, List.findIdx?_eq_none_iff] at h
  intro j hj
  exact ⟨l[j], List.getElem?_eq_getElem hj, by simpa using h _ (List.getElem_mem hj)⟩

end Go.Proofs.YtppdihpobokfnaaGreatDoor

set_option linter.unusedVariables false
namespace Go.Proofs.YtppdihpobokfnaaGreatDoor
open Go Go.RowKit Go.ChangeShapes Go.WideShapes Go.ChangeAt

theorem law_step_laid {C : Checked} {os : Os} {f : FuncId} {fn : Func} {s : ChangeSpec} {H : Type} {enc : TypeId × Value → H} {lv : List (String × DataW Unit)} (own : ownKnob C.prog.godebug = none) (laid : laidOutB C.prog = true) (started : os.Started)
    (noInit : C.prog.inits.idxOf? f = none) (hfn : C.prog.funcs[f]? = some fn) {tb : TypeId} (hres : fn.resultTypes = #[tb]) (htb : C.prog.underlying tb = some .bool)
    (hvars : s.vars = []) (hfnv : ∀ ds : List (DataW H), ds.length = fn.params.size → s.fn H (ds ++ []) = { results := [.lit (.bool true)], args := ds })
    (hread : ∀ t ∈ fn.params.toList, C.prog.readableRec t = true ∧ t < C.prog.types.size)
    (witness : ∃ (w : World) (tape : Tape) (i : Input), w.os = os ∧ (w.forCall tape i).Shaped C.prog ∧ i.vars = [] ∧ Input.okWide C.prog (w.forCall tape i) .any w.heap.size f i ∧
      ((s.pre enc C.prog fn [] false (w.forCall tape i).memory i.args ∧ laidMetH C.prog lv (w.forCall tape i).memory) ∧ sizedMet enc C.prog fn (OpenSpec.ofChange s) false (w.forCall tape i).memory i.args) ∧ ({} : Assume).holds C.prog (lone (Frame.enter C.prog f i.args .normal) [] (w.forCall tape i)))
    (walk : ∀ (W : World) (args : Array Value), GotAll C.prog W fn.params.toList args.toList →
      Calls C.prog f args W fun e W' => e = .returned (.bool true) ∧ Below W.heap.size W W') :
    ReturnsInHanded {} C os f .any (fun w args => (s.pre enc C.prog fn [] false w args ∧ laidMetH C.prog lv w) ∧ sizedMet enc C.prog fn (OpenSpec.ofChange s) false w args) (s.post enc C.prog fn false true false false) := by
  refine returnsInHanded_of_change_and (C := C) (X := fun w _ => laidMetH C.prog lv w) (fun _ _ _ hh h => h.of_heap hh) own started noInit hfn witness ?_
  intro W base args ds gs before hval hW _ hsz _ _
  have hW' := hW
  obtain ⟨p, q, hA, hV, rfl, hfz, hnd⟩ := hW
  rw [hvars] at hV
  obtain ⟨rfl, rfl⟩ : gs = [] ∧ q = [] := by
    cases gs with
    | nil => exact ⟨rfl, hV⟩
    | cons g gs => exact hV.elim
  have hlen := trodAll_length _ _ _ _ hA
  have hvt : s.plain.varTypes C.prog = [] := by
    simp [DataSpec.varTypes, ChangeSpec.plain, hvars]
  have hw : ∀ x ∈ DataW.weightsEach C.prog fn.params.toList ds, x ≤ reachBytes := by
    rw [hvt] at hsz
    simp only [List.append_nil, List.all_eq_true, decide_eq_true_eq] at hsz
    exact hsz
  have hG : GotAll C.prog W fn.params.toList args.toList := gotAll_of (base := base) (enc := enc) _ _ ds p (fun j t v ht hv => hval j t v (by simpa using ht) (by simpa using hv)) hA hw
  refine (walk W args hG).mono fun e W' ⟨he, hb⟩ => ?_
  subst he
  have es := hfnv ds (by rw [hlen]; simp)
  refine ⟨_, rfl, ds, [], p ++ [], [], p, [], hW', ?_, ?_, ?_, hb.frame _, fun h => by cases h⟩
  · rw [es, hres]
    exact trodAll_mk1 (shut_bool htb _)
  · rw [es]
    exact trodAll_below laid hb _ _ _ _ hread hA
  · rw [es, hvars]
    rfl

end Go.Proofs.YtppdihpobokfnaaGreatDoor
