/- Plain facts: fields one behind the other. -/
import Derived.Test.YtfgnemddamebaaaPlainPut
set_option linter.unusedVariables false
set_option linter.unusedSimpArgs false
namespace Go.Proofs.Ytfgnemddamebaaa
open Go

/-- a field: its size, and its number -/
def fldB (l : List (Nat × Int)) : List UInt8 := l.flatMap fun f => leBytes f.1 f.2.toNat
theorem fldB_append (a b : List (Nat × Int)) : fldB (a ++ b) = fldB a ++ fldB b := by simp [fldB]
theorem fldB_cons (f : Nat × Int) (r : List (Nat × Int)) : fldB (f :: r) = leBytes f.1 f.2.toNat ++ fldB r := rfl
theorem fldB_nil : fldB [] = [] := rfl
theorem fldB_len (F : List (Nat × Int)) : (fldB F).length = (F.map (·.1)).sum := by
  induction F with
  | nil => rfl
  | cons f r ih => rw [fldB_cons, List.length_append, leBytes_length, ih]; simp
theorem fldB_same (s : Nat) (zs : List Int) : (fldB (zs.map fun z => (s, z))).length = s * zs.length := by
  induction zs with
  | nil => rfl
  | cons z r ih => rw [List.map_cons, fldB_cons, List.length_append, leBytes_length, ih, List.length_cons, Nat.mul_succ]; omega

/-- may a field be? -/
def fldOk (f : Nat × Int) : Prop := (f.1 = 1 ∨ f.1 = 2 ∨ f.1 = 4 ∨ f.1 = 8) ∧ 0 ≤ f.2 ∧ f.2.toNat < 256 ^ f.1

/-- a number put over as many bytes -/
theorem over_put (A old R : List UInt8) (n v : Nat) (h : old.length = n) : putL (A ++ old ++ R) (A.length : Nat) (n : Nat) v = A ++ leBytes n v ++ R := by
  unfold putL
  have e1 : ((A.length : Nat) : Int).toNat = A.length := by omega
  have e2 : ((n : Nat) : Int).toNat = n := by omega
  have t : (A ++ old ++ R).take A.length = A := by rw [List.append_assoc, List.take_left' rfl]
  have d : (A ++ old ++ R).drop (A.length + n) = R := List.drop_left' (by simp; omega)
  rw [e1, e2, t, d]

theorem put_over {S : List UInt8} {a m : Int} (A old R : List UInt8) (n : Nat) (v : Int) (hS : S = A ++ old ++ R) (ha : a = (A.length : Nat)) (hm : m = (n : Nat)) (h : old.length = n) (hn : n = 1 ∨ n = 2 ∨ n = 4 ∨ n = 8) (h0 : 0 ≤ v) (h1 : v.toNat < 256 ^ n) :
    putIOk (tx S) a m v = true ∧ putIV (tx S) a m v = tx (A ++ leBytes n v.toNat ++ R) ∧ putOk (tx S) a m v = true ∧ putV (tx S) a m v = tx (A ++ leBytes n v.toNat ++ R) := by
  subst hS ha hm
  have hf : fits (tx (A ++ old ++ R)).size (A.length : Nat) (n : Nat) = true := by
    rw [tx_size]
    exact fits_iff.2 ⟨by omega, by omega, by simp; omega⟩
  have ok : putOk (tx (A ++ old ++ R)) (A.length : Nat) (n : Nat) v = true := by
    rw [putOk, hf]
    simp only [Bool.true_and, decide_eq_true_eq, Int.toNat_natCast]
    exact h1
  have iok : putIOk (tx (A ++ old ++ R)) (A.length : Nat) (n : Nat) v = true := by
    rw [putIOk, ok]
    simp only [Bool.and_true, decide_eq_true_eq]
    exact h0
  refine ⟨iok, ?_, ok, ?_⟩
  · rw [putIV, if_pos iok, tx_list, over_put _ _ _ _ _ h]
  · rw [putV, if_pos ok, tx_list, over_put _ _ _ _ _ h]

/-- a field put in bytes 0 behind others -/
theorem fld_put (A : List UInt8) (F : List (Nat × Int)) (j z : Nat) (hj : j < F.length) (hF : ∀ f ∈ F, fldOk f) (hz : (F[j]).1 ≤ z) :
    putIOk (tx (A ++ fldB (F.take j) ++ List.replicate z 0)) ((A.length + (fldB (F.take j)).length : Nat) : Int) ((F[j]).1 : Nat) (F[j]).2 = true ∧
      putIV (tx (A ++ fldB (F.take j) ++ List.replicate z 0)) ((A.length + (fldB (F.take j)).length : Nat) : Int) ((F[j]).1 : Nat) (F[j]).2 = tx (A ++ fldB (F.take (j + 1)) ++ List.replicate (z - (F[j]).1) 0) := by
  obtain ⟨a, b, c⟩ := hF _ (List.getElem_mem hj)
  have e1 : (A ++ fldB (F.take j)).length = A.length + (fldB (F.take j)).length := by simp
  have e2 : List.replicate z (0 : UInt8) = List.replicate (F[j]).1 0 ++ List.replicate (z - (F[j]).1) 0 := by rw [List.replicate_append_replicate]; congr 1; omega
  have := put_over (A ++ fldB (F.take j)) (List.replicate (F[j]).1 0) (List.replicate (z - (F[j]).1) 0) (F[j]).1 (F[j]).2 (S := A ++ fldB (F.take j) ++ List.replicate z 0) (by rw [e2, List.append_assoc, List.append_assoc, List.append_assoc]) (by rw [e1]) rfl (by simp) a b c
  refine ⟨this.1, this.2.1.trans ?_⟩
  rw [List.take_succ_eq_append_getElem hj, fldB_append]
  simp [fldB]

/-- a field behind others, got -/
theorem fld_get (A : List UInt8) (F : List (Nat × Int)) (R : List UInt8) (j : Nat) (hj : j < F.length) (hF : fldOk F[j]) :
    fits (tx (A ++ fldB F ++ R)).size ((A.length + (fldB (F.take j)).length : Nat) : Int) ((F[j]).1 : Nat) = true ∧
    (getL (A ++ fldB F ++ R) ((A.length + (fldB (F.take j)).length : Nat) : Int) ((F[j]).1 : Nat) : Int) = (F[j]).2 := by
  obtain ⟨a, b, c⟩ := hF
  have e : F = F.take j ++ F[j] :: F.drop (j + 1) := by rw [List.getElem_cons_drop, List.take_append_drop]
  have e1 : (A ++ fldB (F.take j)).length = A.length + (fldB (F.take j)).length := by simp
  have hS : A ++ fldB F ++ R = (A ++ fldB (F.take j)) ++ leBytes (F[j]).1 (F[j]).2.toNat ++ (fldB (F.drop (j + 1)) ++ R) := by
    conv => lhs; rw [e]
    rw [fldB_append, fldB_cons]
    simp only [List.append_assoc]
  constructor
  · rw [tx_size, hS]
    exact fits_iff.2 ⟨by omega, by omega, by simp [leBytes_length]; omega⟩
  · rw [hS]
    unfold getL
    rw [Int.toNat_natCast, Int.toNat_natCast, ← e1, List.append_assoc, List.drop_left' rfl, List.take_left' (leBytes_length _ _), leVal_leBytes _ _ c]
    omega

end Go.Proofs.Ytfgnemddamebaaa
