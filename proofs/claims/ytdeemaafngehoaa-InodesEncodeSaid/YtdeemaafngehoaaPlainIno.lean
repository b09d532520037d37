/- Plain facts on inodes' bytes. -/
import Derived.Test.YtdeemaafngehoaaPlainPut
import Derived.Test.YtdeemaafngehoaaGotIno
import Derived.Lib.SmallJoins
set_option linter.unusedVariables false
set_option linter.unusedSimpArgs false
namespace Go.Proofs.Ytdeemaafngehoaa
open Go Go.RowKit

def words4 : List Int → List UInt8
  | [] => []
  | x :: r => leBytes 4 x.toNat ++ words4 r
theorem words4_length (l : List Int) : (words4 l).length = 4 * l.length := by
  induction l with
  | nil => rfl
  | cons x r ih => simp [words4, leBytes_length, ih]; omega
theorem words4_append (l r : List Int) : words4 (l ++ r) = words4 l ++ words4 r := by
  induction l with
  | nil => rfl
  | cons x t ih => simp [words4, ih]

/-- may an inode be? r: may its entries be? -/
def inoOk (k : Int) (p : Bool) (l s d : Int) (n : Nat) (r : Bool) : Bool :=
  if k = 0 then !p && (decide (l = 0) && (decide (s = 0) && (decide (d = 0) && decide (n = 0))))
  else (decide (k = 1) || decide (k = 2)) && (decide (0 ≤ l ∧ l ≤ 100 ∧ 0 ≤ s ∧ s ≤ 262144 ∧ 0 ≤ d ∧ d ≤ 4 ∧ n ≤ 4) && ((decide (d = 0) || decide (0 < n)) && r))

structure Ino where
  k : Int
  p : Bool
  l : Int
  s : Int
  d : Int
  es : List (Int × Int × Int)

theorem Ino.ext {x y : Ino} (h1 : x.k = y.k) (h2 : x.p = y.p) (h3 : x.l = y.l) (h4 : x.s = y.s) (h5 : x.d = y.d) (h6 : x.es = y.es) : x = y := by
  cases x; cases y; simp_all

def Ino.zero : Ino := ⟨0, false, 0, 0, 0, []⟩
def Ino.ok (x : Ino) : Bool := inoOk x.k x.p x.l x.s x.d x.es.length (rowOk x.es (x.d == 0))

theorem Ino.ok_iff (x : Ino) : x.ok = true ↔ (x.k = 0 ∧ x.p = false ∧ x.l = 0 ∧ x.s = 0 ∧ x.d = 0 ∧ x.es = []) ∨
    ((x.k = 1 ∨ x.k = 2) ∧ 0 ≤ x.l ∧ x.l ≤ 100 ∧ 0 ≤ x.s ∧ x.s ≤ 262144 ∧ 0 ≤ x.d ∧ x.d ≤ 4 ∧ x.es.length ≤ 4 ∧ (x.d = 0 ∨ 0 < x.es.length) ∧ rowOk x.es (x.d == 0) = true) := by
  unfold Ino.ok inoOk
  by_cases c : x.k = 0
  · rw [if_pos c]
    simp only [Bool.and_eq_true, decide_eq_true_eq, Bool.not_eq_true', List.length_eq_zero_iff]
    constructor
    · rintro ⟨a, b, d, e, f⟩; exact .inl ⟨c, a, b, d, e, f⟩
    · rintro (⟨_, a, b, d, e, f⟩ | ⟨a, _⟩)
      · exact ⟨a, b, d, e, f⟩
      · omega
  · rw [if_neg c]
    simp only [Bool.and_eq_true, Bool.or_eq_true, decide_eq_true_eq]
    constructor
    · rintro ⟨a, ⟨b1, b2, b3, b4, b5, b6, b7⟩, e, f⟩; exact .inr ⟨a, b1, b2, b3, b4, b5, b6, b7, e, f⟩
    · rintro (⟨a, _⟩ | ⟨a, b1, b2, b3, b4, b5, b6, b7, e, f⟩)
      · exact absurd a c
      · exact ⟨a, ⟨b1, b2, b3, b4, b5, b6, b7⟩, e, f⟩

/-- the entries' numbers -/
def flE : List (Int × Int × Int) → List Int
  | [] => []
  | x :: r => x.1 :: x.2.1 :: x.2.2 :: flE r
theorem flE_length (es : List (Int × Int × Int)) : (flE es).length = 3 * es.length := by
  induction es with
  | nil => rfl
  | cons x r ih => simp [flE, ih]; omega
theorem flE_append (a b : List (Int × Int × Int)) : flE (a ++ b) = flE a ++ flE b := by
  induction a with
  | nil => rfl
  | cons x r ih => simp [flE, ih]

theorem row_small {es : List (Int × Int × Int)} {leaf : Bool} (h : rowOk es leaf = true) : ∀ y ∈ es, 0 ≤ y.1 ∧ y.1 ≤ 2047 ∧ 0 ≤ y.2.1 ∧ y.2.1 ≤ 4095 ∧ 0 ≤ y.2.2 ∧ y.2.2 ≤ 4096 := by
  intro y hy
  obtain ⟨i, hi, rfl⟩ := List.getElem_of_mem hy
  rw [rowOk, List.all_eq_true] at h
  have := h i (List.mem_range.2 hi)
  simp only [stepOk, List.getElem?_eq_getElem hi, Bool.and_eq_true] at this
  have h1 := this.1
  cases leaf
  · have := entOk_node.1 h1; omega
  · have := entOk_leaf.1 h1; omega

theorem fl_small {es : List (Int × Int × Int)} (h : ∀ y ∈ es, 0 ≤ y.1 ∧ y.1 ≤ 2047 ∧ 0 ≤ y.2.1 ∧ y.2.1 ≤ 4095 ∧ 0 ≤ y.2.2 ∧ y.2.2 ≤ 4096) : ∀ z ∈ flE es, 0 ≤ z ∧ z ≤ 4096 := by
  induction es with
  | nil => intro z hz; cases hz
  | cons x r ih =>
    intro z hz
    have hx := h x (by simp)
    simp only [flE, List.mem_cons] at hz
    rcases hz with rfl | rfl | rfl | hz
    · omega
    · omega
    · omega
    · exact ih (fun y hy => h y (by simp [hy])) z hz

def pinI (p : Bool) : Int := if p then 1 else 0

/-- the fields ahead of the entries -/
def Ino.hdF (x : Ino) : List (Nat × Int) := [(1, x.k), (1, pinI x.p), (2, x.l), (8, x.s), (1, x.d), (1, (x.es.length : Int))]
def fldB (l : List (Nat × Int)) : List UInt8 := l.flatMap fun f => leBytes f.1 f.2.toNat
theorem fldB_append (a b : List (Nat × Int)) : fldB (a ++ b) = fldB a ++ fldB b := by simp [fldB]
def Ino.hd (x : Ino) : List UInt8 := fldB x.hdF
theorem Ino.hd_length (x : Ino) : x.hd.length = 14 := by simp [Ino.hd, fldB, Ino.hdF, leBytes_length]

/-- an inode's bytes -/
def Ino.bytes (x : Ino) : List UInt8 := x.hd ++ words4 (flE x.es) ++ List.replicate (50 - 12 * x.es.length) 0

theorem Ino.bytes_length (x : Ino) (h : x.es.length ≤ 4) : x.bytes.length = 64 := by
  simp [Ino.bytes, Ino.hd_length, words4_length, flE_length]; omega

theorem Ino.ok_small {x : Ino} (h : x.ok = true) : 0 ≤ x.k ∧ x.k ≤ 2 ∧ 0 ≤ x.l ∧ x.l ≤ 100 ∧ 0 ≤ x.s ∧ x.s ≤ 262144 ∧ 0 ≤ x.d ∧ x.d ≤ 4 ∧ x.es.length ≤ 4 ∧ ∀ z ∈ flE x.es, 0 ≤ z ∧ z ≤ 4096 := by
  rcases x.ok_iff.1 h with ⟨h1, h2, h3, h4, h5, h6⟩ | ⟨h1, h2, h3, h4, h5, h6, h7, h8, h9, h10⟩
  · refine ⟨by omega, by omega, by omega, by omega, by omega, by omega, by omega, by omega, by simp [h6], ?_⟩
    rw [h6]; intro z hz; cases hz
  · exact ⟨by omega, by omega, h2, h3, h4, h5, h6, h7, h8, fl_small (row_small h10)⟩

theorem pinI_b (p : Bool) : 0 ≤ pinI p ∧ pinI p ≤ 1 := by cases p <;> simp [pinI]

/-- each field is small enough -/
theorem Ino.hdF_small {x : Ino} (h : x.ok = true) : ∀ f ∈ x.hdF, (f.1 = 1 ∨ f.1 = 2 ∨ f.1 = 4 ∨ f.1 = 8) ∧ 0 ≤ f.2 ∧ f.2.toNat < 256 ^ f.1 ∧ f.2 ≤ 262144 := by
  obtain ⟨h1, h2, h3, h4, h5, h6, h7, h8, h9, h10⟩ := Ino.ok_small h
  have hp := pinI_b x.p
  intro f hf
  simp only [Ino.hdF, List.mem_cons, List.not_mem_nil, or_false] at hf
  rcases hf with rfl | rfl | rfl | rfl | rfl | rfl <;> simp <;> omega

/-- a field behind others -/
theorem fields_at (F : List (Nat × Int)) (R : List UInt8) (j : Nat) (hj : j < F.length) (hs : ∀ f ∈ F, (f.1 = 1 ∨ f.1 = 2 ∨ f.1 = 4 ∨ f.1 = 8) ∧ 0 ≤ f.2 ∧ f.2.toNat < 256 ^ f.1 ∧ f.2 ≤ 262144) :
    getIOk (tx (fldB F ++ R)) ((fldB (F.take j)).length : Nat) (F[j].1 : Nat) = true ∧ getIV (tx (fldB F ++ R)) ((fldB (F.take j)).length : Nat) (F[j].1 : Nat) = F[j].2 := by
  have hm := hs F[j] (List.getElem_mem hj)
  refine get_at (fldB (F.take j)) (fldB (F.drop (j + 1)) ++ R) F[j].1 F[j].2 ?_ rfl rfl hm.1 hm.2.1 hm.2.2.1 (by omega)
  have e : F = F.take j ++ F[j] :: F.drop (j + 1) := by rw [List.getElem_cons_drop, List.take_append_drop]
  conv => lhs; rw [e]
  rw [fldB_append]
  simp only [fldB, List.flatMap_cons, List.append_assoc]

/-- a number among the entries' -/
theorem word_at (A : List UInt8) (l : List Int) (R : List UInt8) (j : Nat) (hj : j < l.length) (hs : ∀ z ∈ l, 0 ≤ z ∧ z ≤ 4096) :
    getIOk (tx (A ++ words4 l ++ R)) ((A.length + 4 * j : Nat) : Int) 4 = true ∧ getIV (tx (A ++ words4 l ++ R)) ((A.length + 4 * j : Nat) : Int) 4 = l[j] := by
  have hm := hs l[j] (List.getElem_mem hj)
  have e4 : (256 : Nat) ^ 4 = 4294967296 := by decide
  refine get_at (A ++ words4 (l.take j)) (words4 (l.drop (j + 1)) ++ R) 4 l[j] ?_ ?_ rfl (by omega) hm.1 (by omega) (by omega)
  · have e : l = l.take j ++ l[j] :: l.drop (j + 1) := by rw [List.getElem_cons_drop, List.take_append_drop]
    conv => lhs; rw [e]
    rw [words4_append]
    simp only [words4, List.append_assoc]
  · simp [words4_length]; omega

/-! ### what is decoded -/

/-- so many entries of some bytes; m: what stands for what is not there -/
def entsOf (g : Int → Int → Int) (n : Nat) : List (Int × Int × Int) := (List.range n).map fun (i : Nat) => (g (14 + 12 * (i : Int)) 4, g (18 + 12 * (i : Int)) 4, g (22 + 12 * (i : Int)) 4)

/-- an inode of bytes, by what gets numbers; t: how many entries at most -/
def inoOf (g : Int → Int → Int) (t : Nat) : Ino := ⟨g 0 1, g 1 1 == 1, g 2 2, g 4 8, g 12 1, entsOf g (min (g 13 1).toNat t)⟩

/-- .. of those that are not there: -1 -/
def getM (s : ByteArray) (a n : Int) : Int := if getIOk s a n then getIV s a n else -1

theorem inoOf_bytes {x : Ino} (h : x.ok = true) (t : Nat) (ht : 4 ≤ t) (g : Int → Int → Int) (hg : ∀ a n, getIOk (tx x.bytes) a n = true → g a n = getIV (tx x.bytes) a n) : inoOf g t = x := by
  obtain ⟨h1, h2, h3, h4, h5, h6, h7, h8, h9, h10⟩ := Ino.ok_small h
  have hb : x.bytes = fldB x.hdF ++ (words4 (flE x.es) ++ List.replicate (50 - 12 * x.es.length) 0) := by rw [Ino.bytes, Ino.hd, List.append_assoc]
  have F := fun j (hj : j < x.hdF.length) => fields_at x.hdF (words4 (flE x.es) ++ List.replicate (50 - 12 * x.es.length) 0) j hj (Ino.hdF_small h)
  rw [← hb] at F
  have W := fun j (hj : j < (flE x.es).length) => word_at x.hd (flE x.es) (List.replicate (50 - 12 * x.es.length) 0) j hj h10
  have hb2 : x.hd ++ words4 (flE x.es) ++ List.replicate (50 - 12 * x.es.length) 0 = x.bytes := rfl
  rw [hb2, Ino.hd_length] at W
  have L : ∀ j, (fldB (x.hdF.take j)).length = ((x.hdF.take j).map (·.1)).sum := by
    intro j
    generalize x.hdF.take j = F
    induction F with
    | nil => rfl
    | cons f r ih =>
      have : fldB (f :: r) = leBytes f.1 f.2.toNat ++ fldB r := rfl
      rw [this, List.length_append, leBytes_length, ih]
      simp
  have f0 := F 0 (by simp [Ino.hdF])
  have f1 := F 1 (by simp [Ino.hdF])
  have f2 := F 2 (by simp [Ino.hdF])
  have f3 := F 3 (by simp [Ino.hdF])
  have f4 := F 4 (by simp [Ino.hdF])
  have f5 := F 5 (by simp [Ino.hdF])
  rw [L] at f0 f1 f2 f3 f4 f5
  simp only [Ino.hdF, List.take_succ_cons, List.take_zero, List.map_cons, List.map_nil, List.sum_cons, List.sum_nil, List.getElem_cons_zero, List.getElem_cons_succ] at f0 f1 f2 f3 f4 f5
  have g0 : g 0 1 = x.k := (hg 0 1 f0.1).trans f0.2
  have g1 : g 1 1 = pinI x.p := (hg 1 1 f1.1).trans f1.2
  have g2 : g 2 2 = x.l := (hg 2 2 f2.1).trans f2.2
  have g3 : g 4 8 = x.s := (hg 4 8 f3.1).trans f3.2
  have g4 : g 12 1 = x.d := (hg 12 1 f4.1).trans f4.2
  have g5 : g 13 1 = (x.es.length : Int) := (hg 13 1 f5.1).trans f5.2
  have gw : ∀ j (hj : j < (flE x.es).length), g (14 + 4 * (j : Int)) 4 = (flE x.es)[j] := by
    intro j hj
    have := W j hj
    have e : ((14 + 4 * j : Nat) : Int) = 14 + 4 * (j : Int) := by omega
    rw [e] at this
    exact (hg _ _ this.1).trans this.2
  apply Ino.ext
  · exact g0
  · show (g 1 1 == 1) = x.p
    rw [g1]; cases x.p <;> rfl
  · exact g2
  · exact g3
  · exact g4
  · show entsOf g (min (g 13 1).toNat t) = x.es
    rw [g5, Int.toNat_natCast, Nat.min_eq_left (by omega)]
    have hfl : ∀ (es : List (Int × Int × Int)) (i : Nat) (hi : i < es.length), (flE es)[3 * i]? = some es[i].1 ∧ (flE es)[3 * i + 1]? = some es[i].2.1 ∧ (flE es)[3 * i + 2]? = some es[i].2.2 := by
      intro es
      induction es with
      | nil => intro i hi; exact absurd hi (by simp)
      | cons y r ih =>
        intro i hi
        cases i with
        | zero => exact ⟨rfl, rfl, rfl⟩
        | succ i =>
          have := ih i (by simpa using hi)
          have e : 3 * (i + 1) = 3 * i + 1 + 1 + 1 := by omega
          rw [e]
          simpa [flE] using this
    apply List.ext_getElem
    · simp [entsOf]
    · intro i hi hi'
      have hlen := flE_length x.es
      obtain ⟨q0, q1, q2⟩ := hfl x.es i hi'
      have w0 := gw (3 * i) (by omega)
      have w1 := gw (3 * i + 1) (by omega)
      have w2 := gw (3 * i + 2) (by omega)
      rw [List.getElem?_eq_getElem (by omega)] at q0 q1 q2
      simp only [Option.some.injEq] at q0 q1 q2
      rw [q0] at w0
      rw [q1] at w1
      rw [q2] at w2
      simp only [entsOf, List.getElem_map, List.getElem_range]
      have e0 : (14 + 4 * ((3 * i : Nat) : Int)) = 14 + 12 * (i : Int) := by omega
      have e1 : (14 + 4 * ((3 * i + 1 : Nat) : Int)) = 18 + 12 * (i : Int) := by omega
      have e2 : (14 + 4 * ((3 * i + 2 : Nat) : Int)) = 22 + 12 * (i : Int) := by omega
      rw [e0] at w0
      rw [e1] at w1
      rw [e2] at w2
      rw [w0, w1, w2]

/-- the inode of bytes, as the program takes it -/
def inoP (s : ByteArray) : Ino := inoOf (getIV s) 4
/-- .. and as the document's answer does -/
def inoR (s : ByteArray) : Ino := inoOf (getM s) 10

def inoDec (s : ByteArray) : Bool := (inoP s).ok && (tx (inoP s).bytes).toList == s.toList

theorem bytes_beq {a b : ByteArray} : (a.toList == b.toList) = true ↔ a = b := by
  rw [← beq_toListBytes, show (a == b) = (a.data == b.data) by cases a; cases b; rfl, beq_iff_eq]
  exact ⟨ByteArray.ext, congrArg _⟩

/-- a text that is some inode's is taken as that one, by both -/
theorem inoP_bytes {x : Ino} (h : x.ok = true) : inoP (tx x.bytes) = x := inoOf_bytes h 4 (Nat.le_refl _) _ fun _ _ _ => rfl
theorem inoR_bytes {x : Ino} (h : x.ok = true) : inoR (tx x.bytes) = x := inoOf_bytes h 10 (by omega) _ fun _ _ h => if_pos h

theorem inoDec_iff {s : ByteArray} : inoDec s = true ↔ ∃ x : Ino, x.ok = true ∧ s = tx x.bytes := by
  rw [inoDec, Bool.and_eq_true, bytes_beq]
  constructor
  · rintro ⟨a, b⟩; exact ⟨_, a, b.symm⟩
  · rintro ⟨x, a, rfl⟩; rw [inoP_bytes a]; exact ⟨a, rfl⟩
theorem inoDecR_iff {s : ByteArray} : ((inoR s).ok && (tx (inoR s).bytes).toList == s.toList) = true ↔ ∃ x : Ino, x.ok = true ∧ s = tx x.bytes := by
  rw [Bool.and_eq_true, bytes_beq]
  constructor
  · rintro ⟨a, b⟩; exact ⟨_, a, b.symm⟩
  · rintro ⟨x, a, rfl⟩; rw [inoR_bytes a]; exact ⟨a, rfl⟩
theorem inoDecR (s : ByteArray) : ((inoR s).ok && (tx (inoR s).bytes).toList == s.toList) = inoDec s := by
  rw [Bool.eq_iff_iff, inoDecR_iff, inoDec_iff]
theorem inoR_P {s : ByteArray} (h : inoDec s = true) : inoR s = inoP s := by
  obtain ⟨x, hx, rfl⟩ := inoDec_iff.1 h
  rw [inoP_bytes hx, inoR_bytes hx]
theorem inoDec_bytes {x : Ino} (h : x.ok = true) : inoDec (tx x.bytes) = true := inoDec_iff.2 ⟨x, h, rfl⟩
theorem inoDec_ok {s : ByteArray} (h : inoDec s = true) : (inoP s).ok = true ∧ tx (inoP s).bytes = s := by
  obtain ⟨x, hx, rfl⟩ := inoDec_iff.1 h
  rw [inoP_bytes hx]; exact ⟨hx, rfl⟩
theorem inoDec_size {s : ByteArray} (h : inoDec s = true) : s.size = 64 := by
  obtain ⟨x, hx, rfl⟩ := inoDec_iff.1 h
  rw [tx_size, Ino.bytes_length x (Ino.ok_small hx).2.2.2.2.2.2.2.2.1]

end Go.Proofs.Ytdeemaafngehoaa
