/- Plain facts on the entries of a directory. No function in sight. -/
import Derived.Test.YtlhkfpenfbakkaaPlainNam
import Derived.Test.YtlhkfpenfbakkaaPlainPut
set_option linter.unusedVariables false
set_option linter.unusedSimpArgs false
namespace Go.Proofs.Ytlhkfpenfbakkaa
open Go Go.RowKit

/-- an entry: its name, its inode -/
structure De where
  nm : ByteArray
  ino : Int

instance : Inhabited De := ⟨⟨⟨#[]⟩, 0⟩⟩

abbrev De.bs (d : De) : List UInt8 := bts d.nm
theorem De.ext' {x y : De} (h1 : x.bs = y.bs) (h2 : x.ino = y.ino) : x = y := by
  cases x; cases y
  simp only [De.mk.injEq]
  exact ⟨ByteArray.ext (Array.toList_inj.1 h1), h2⟩
def De.nameOk (d : De) : Bool := nmOk d.bs
def De.inoOk (d : De) : Bool := decide (0 ≤ d.ino) && decide (d.ino ≤ 4294967295)
theorem De.inoOk_iff {d : De} : d.inoOk = true ↔ 0 ≤ d.ino ∧ d.ino ≤ 4294967295 := by simp [De.inoOk]
def De.sz (d : De) : Nat := 5 + d.nm.size
/-- an entry's bytes -/
def entB (d : De) : List UInt8 := UInt8.ofNat d.nm.size :: (leBytes 4 d.ino.toNat ++ d.bs)
theorem entB_len (d : De) : (entB d).length = d.sz := by
  simp [entB, leBytes_length, De.sz]; omega
def entsB (l : List De) : List UInt8 := l.flatMap entB
def many (l : List De) : Nat := (l.map De.sz).sum
theorem many_append (a b : List De) : many (a ++ b) = many a + many b := by simp [many]
theorem many_cons (d : De) (l : List De) : many (d :: l) = d.sz + many l := by simp [many]
theorem entsB_len (l : List De) : (entsB l).length = many l := by
  induction l with
  | nil => rfl
  | cons d l ih => rw [entsB, List.flatMap_cons, List.length_append, entB_len, many_cons, ← ih]; rfl
theorem entsB_append (a b : List De) : entsB (a ++ b) = entsB a ++ entsB b := by simp [entsB]

/-- are two entries of one name? -/
def dupP (l : List De) : Bool := !decide ((l.map De.bs).Nodup)
/-- why a list has no block -/
def packE (l : List De) : Int :=
  if l.all De.nameOk then (if l.all De.inoOk then (if dupP l then 211 else if 128 < many l then 120 else 0) else 2) else 130
def packB (l : List De) : ByteArray := if packE l = 0 then tx (entsB l ++ List.replicate (128 - many l) 0) else tx []

theorem packE_ok {l : List De} : packE l = 0 ↔ (∀ d ∈ l, d.nameOk = true) ∧ (∀ d ∈ l, d.inoOk = true) ∧ (l.map De.bs).Nodup ∧ many l ≤ 128 := by
  unfold packE dupP
  by_cases h1 : l.all De.nameOk = true
  · by_cases h2 : l.all De.inoOk = true
    · by_cases h3 : (l.map De.bs).Nodup
      · by_cases h4 : 128 < many l
        · simp only [h1, h2, h3, h4, if_true, decide_true, Bool.not_true, Bool.false_eq_true, if_false]
          constructor
          · intro h; cases h
          · intro h; omega
        · simp only [h1, h2, h3, h4, if_true, decide_true, Bool.not_true, Bool.false_eq_true, if_false, true_iff]
          rw [List.all_eq_true] at h1 h2
          exact ⟨h1, h2, trivial, by omega⟩
      · simp only [h1, h2, h3, if_true, decide_false, Bool.not_false]
        constructor
        · intro h; cases h
        · intro h; exact h.2.2.1.elim
    · simp only [h1, h2, if_true, if_false]
      constructor
      · intro h; cases h
      · intro h; exact absurd (List.all_eq_true.2 h.2.1) h2
  · simp only [h1, if_false]
    constructor
    · intro h; cases h
    · intro h; exact absurd (List.all_eq_true.2 h.1) h1

theorem packB_size {l : List De} (h : packE l = 0) : (packB l).size = 128 := by
  have := (packE_ok.1 h).2.2.2
  rw [packB, if_pos h, tx_size, List.length_append, entsB_len, List.length_replicate]
  omega
theorem packE_cases (l : List De) : packE l = 0 ∨ packE l = 130 ∨ packE l = 2 ∨ packE l = 211 ∨ packE l = 120 := by
  unfold packE
  split
  · split
    · split
      · exact .inr (.inr (.inr (.inl rfl)))
      · split
        · exact .inr (.inr (.inr (.inr rfl)))
        · exact .inl rfl
    · exact .inr (.inr (.inl rfl))
  · exact .inr (.inl rfl)

/-! ### reading a block -/

/-- the entries of bytes; none: they are cut off -/
def parseR : Nat → List UInt8 → Option (List De)
  | 0, _ => some []
  | f + 1, s => match s with
    | [] => some []
    | c :: r => if c = 0 then some [] else if r.length < 4 + c.toNat then none else (parseR f ((r.drop 4).drop c.toNat)).map fun l => ⟨tx ((r.drop 4).take c.toNat), (leVal (r.take 4) : Nat)⟩ :: l
def parseP (s : ByteArray) : Option (List De) := match parseR s.size (bts s) with
  | none => none
  | some l => if packE l = 0 ∧ packB l = s then some l else none

theorem parseP_ok {s : ByteArray} {l : List De} (h : parseP s = some l) : packE l = 0 ∧ packB l = s := by
  unfold parseP at h
  split at h
  · cases h
  · split at h
    · rename_i hc
      injection h with h
      subst h
      exact hc
    · cases h

/-- fuel beyond the bytes is nothing -/
theorem parseR_fuel : ∀ (f : Nat) (s : List UInt8), s.length ≤ f → parseR f s = parseR s.length s
  | 0, s, h => by
    have : s = [] := List.length_eq_zero_iff.1 (by omega)
    subst this; rfl
  | f + 1, [], _ => rfl
  | f + 1, c :: r, h => by
    rw [parseR, List.length_cons, parseR]
    split
    · rfl
    · split
      · rfl
      · simp only [List.length_cons] at h
        have hl : ((r.drop 4).drop c.toNat).length ≤ r.length := by simp <;> omega
        rw [parseR_fuel f _ (by omega), parseR_fuel r.length _ hl]

theorem parse_step (c : UInt8) (r : List UInt8) (hc : c ≠ 0) (hr : 4 + c.toNat ≤ r.length) : parseR (c :: r).length (c :: r) = (parseR ((r.drop 4).drop c.toNat).length ((r.drop 4).drop c.toNat)).map fun l => ⟨tx ((r.drop 4).take c.toNat), (leVal (r.take 4) : Nat)⟩ :: l := by
  rw [List.length_cons, parseR, if_neg hc, if_neg (by omega), parseR_fuel r.length _ (by simp <;> omega)]

theorem ofNat_size {d : De} (h : d.nameOk = true) : (UInt8.ofNat d.nm.size).toNat = d.nm.size ∧ 1 ≤ d.nm.size ∧ d.nm.size ≤ 32 := by
  have h1 := nmOk_iff.1 h
  have h2 : d.bs.length = d.nm.size := bts_length d.nm
  rw [h2] at h1
  refine ⟨?_, h1.1, h1.2.1⟩
  simp
  omega

theorem parse_ents : ∀ (l : List De) (z : Nat), (∀ d ∈ l, d.nameOk = true) → (∀ d ∈ l, d.inoOk = true) → parseR (entsB l ++ List.replicate z 0).length (entsB l ++ List.replicate z 0) = some l
  | [], z, _, _ => by
    cases z with
    | zero => rfl
    | succ z =>
      rw [show entsB [] ++ List.replicate (z + 1) (0 : UInt8) = 0 :: List.replicate z 0 from rfl, List.length_cons, parseR, if_pos rfl]
  | d :: l, z, h1, h2 => by
    obtain ⟨e1, e2, e3⟩ := ofNat_size (h1 d (by simp))
    have hi := De.inoOk_iff.1 (h2 d (by simp))
    have ih := parse_ents l z (fun x hx => h1 x (by simp [hx])) (fun x hx => h2 x (by simp [hx]))
    have hs : entsB (d :: l) ++ List.replicate z 0 = UInt8.ofNat d.nm.size :: (leBytes 4 d.ino.toNat ++ (d.bs ++ (entsB l ++ List.replicate z 0))) := by
      simp [entsB, entB]
    have hb : d.bs.length = d.nm.size := bts_length d.nm
    have h4 : (leBytes 4 d.ino.toNat).length = 4 := leBytes_length _ _
    have hd : (leBytes 4 d.ino.toNat ++ (d.bs ++ (entsB l ++ List.replicate z 0))).drop 4 = d.bs ++ (entsB l ++ List.replicate z 0) := List.drop_left' h4
    have ht : (leBytes 4 d.ino.toNat ++ (d.bs ++ (entsB l ++ List.replicate z 0))).take 4 = leBytes 4 d.ino.toNat := List.take_left' h4
    rw [hs, parse_step _ _ (by intro e; rw [e] at e1; simp at e1 <;> omega) (by rw [e1, List.length_append, h4, List.length_append, hb]; omega), hd, ht, e1, List.drop_left' hb, List.take_left' hb, ih]
    simp only [Option.map_some, Option.some.injEq, List.cons.injEq, and_true]
    refine De.ext' ?_ ?_
    · show bts (tx d.bs) = d.bs
      exact tx_list _
    · show ((leVal (leBytes 4 d.ino.toNat) : Nat) : Int) = d.ino
      rw [leVal_leBytes _ _ (by omega)]
      omega

/-- what is packed is parsed -/
theorem parse_pack {l : List De} (h : packE l = 0) : parseP (packB l) = some l := by
  have hh := packE_ok.1 h
  have e : bts (packB l) = entsB l ++ List.replicate (128 - many l) 0 := by
    rw [packB, if_pos h]
  have hr : parseR (packB l).size (bts (packB l)) = some l := by
    have := parse_ents l (128 - many l) hh.1 hh.2.1
    rw [← e] at this
    rw [← this, bts_length]
  unfold parseP
  rw [hr]
  simp only [h, and_self, if_true]
theorem parseP_iff {s : ByteArray} {l : List De} : parseP s = some l ↔ packE l = 0 ∧ packB l = s := by
  constructor
  · exact parseP_ok
  · rintro ⟨h1, rfl⟩; exact parse_pack h1
theorem parseP_size {s : ByteArray} {l : List De} (h : parseP s = some l) : s.size = 128 := by
  obtain ⟨h1, h2⟩ := parseP_ok h
  rw [← h2]; exact packB_size h1

/-- the place of a name -/
def deP (nm : ByteArray) (d : De) : Bool := decide (d.bs = bts nm)
def placeP (l : List De) (nm : ByteArray) : Option Nat := l.findIdx? (deP nm)
def findP (s nm : ByteArray) : Int × Bool := match (parseP s).getD [] |>.find? (deP nm) with
  | some d => (d.ino, true)
  | none => (0, false)
def roomP (s : ByteArray) : Int := match parseP s with
  | some l => 128 - (many l : Int)
  | none => 0
def insertP (s : ByteArray) (x : De) : ByteArray × Int := match parseP s with
  | some l => (packB (l ++ [x]), packE (l ++ [x]))
  | none => (tx [], 80)
def removeP (s nm : ByteArray) : ByteArray × Bool := match parseP s with
  | some l => (match placeP l nm with
    | some i => (packB (l.take i ++ l.drop (i + 1)), true)
    | none => (s, false))
  | none => (s, false)

theorem many_sub {l m : List De} (hs : m.Sublist l) : many m ≤ many l := by
  induction hs with
  | slnil => exact Nat.le_refl _
  | cons a _ ih => rw [many_cons]; omega
  | cons_cons a _ ih => rw [many_cons, many_cons]; omega

theorem packE_sub {l m : List De} (h : packE l = 0) (hs : m.Sublist l) : packE m = 0 := by
  obtain ⟨h1, h2, h3, h4⟩ := packE_ok.1 h
  refine packE_ok.2 ⟨fun d hd => h1 d (hs.subset hd), fun d hd => h2 d (hs.subset hd), h3.sublist (hs.map _), Nat.le_trans (many_sub hs) h4⟩

end Go.Proofs.Ytlhkfpenfbakkaa
