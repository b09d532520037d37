/- Plain facts: a record's bytes. -/
import Derived.Test.YtfgnemddamebaaaPlainRec
import Derived.Test.YtfgnemddamebaaaPlainFld
set_option linter.unusedVariables false
set_option linter.unusedSimpArgs false
namespace Go.Proofs.Ytfgnemddamebaaa
open Go Go.RowKit

def recM : List UInt8 := [71, 76, 74, 119]
def pinI (p : Bool) : Int := if p then 1 else 0

/-- what is kept of each kind -/
def Rc.body (x : Rc) : List (Nat × Int) :=
  if x.k = 1 then [(2, x.at_)] else if x.k = 4 then [(4, x.sum)]
  else (1, (x.hs.length : Int)) :: (x.hs.map (fun z => (2, z)) ++ x.ms.map (fun b => (1, pinI b)))
/-- the fields behind the magic -/
def Rc.fs (x : Rc) : List (Nat × Int) := (1, x.k) :: (8, x.q) :: x.body
/-- how many bytes are kept -/
def Rc.many (x : Rc) : Nat := (fldB x.fs).length
/-- a record's block -/
def Rc.bytes (x : Rc) : List UInt8 := recM ++ fldB x.fs ++ List.replicate (124 - x.many) 0

theorem ms_len (ms : List Bool) : (fldB (ms.map fun b => (1, pinI b))).length = ms.length := by
  induction ms with
  | nil => rfl
  | cons b r ih => rw [List.map_cons, fldB_cons, List.length_append, leBytes_length, ih, List.length_cons]; omega

theorem Rc.many_eq (x : Rc) : x.many = 9 + (if x.k = 1 then 2 else if x.k = 4 then 4 else 1 + 2 * x.hs.length + x.ms.length) := by
  unfold Rc.many Rc.fs Rc.body
  rw [fldB_cons, fldB_cons, List.length_append, List.length_append, leBytes_length, leBytes_length]
  split
  · simp [fldB, leBytes_length]
  · split
    · simp [fldB, leBytes_length]
    · rw [fldB_cons, fldB_append, List.length_append, List.length_append, leBytes_length, fldB_same, ms_len]; omega

/-- the numbers of a record as Go holds them -/
def Rc.fit (x : Rc) : Prop := 0 ≤ x.q ∧ x.q ≤ 18446744073709551615 ∧ 0 ≤ x.sum ∧ x.sum ≤ 4294967295

theorem Rc.many_le {x : Rc} (h : x.ok = true) : x.many ≤ 82 := by
  rw [Rc.many_eq]
  rcases x.ok_iff.1 h with ⟨a, _⟩ | ⟨a, _, _, _, b, c, d⟩ | ⟨a, _, _, _, b, c, d⟩ | ⟨a, _⟩
  · rw [if_pos a]; omega
  · rw [if_neg (by omega), if_neg (by omega)]; omega
  · rw [if_neg (by omega), if_neg (by omega), d]; simp; omega
  · rw [if_neg (by omega), if_pos a]; omega

theorem Rc.bytes_length {x : Rc} (h : x.ok = true) : x.bytes.length = 128 := by
  have := Rc.many_le h
  have e : (fldB x.fs).length = x.many := rfl
  simp [Rc.bytes, recM, e]; omega

theorem Rc.fs_ok {x : Rc} (h : x.ok = true) (hf : x.fit) : ∀ f ∈ x.fs, fldOk f := by
  obtain ⟨q0, q1, s0, s1⟩ := hf
  have e1 : (256 : Nat) ^ 1 = 256 := by decide
  have e2 : (256 : Nat) ^ 2 = 65536 := by decide
  have e4 : (256 : Nat) ^ 4 = 4294967296 := by decide
  have e8 : (256 : Nat) ^ 8 = 18446744073709551616 := by decide
  have hk : 1 ≤ x.k ∧ x.k ≤ 4 := by
    rcases x.ok_iff.1 h with ⟨a, _⟩ | ⟨a, _⟩ | ⟨a, _⟩ | ⟨a, _⟩ <;> omega
  intro f hf
  simp only [Rc.fs, List.mem_cons] at hf
  rcases hf with rfl | rfl | hf
  · exact ⟨by simp, by simp; omega, by simp only [e1]; omega⟩
  · exact ⟨by simp, q0, by simp only [e8]; omega⟩
  · unfold Rc.body at hf
    rcases x.ok_iff.1 h with ⟨a, b, c, _⟩ | ⟨a, _, _, r, b, c, d⟩ | ⟨a, _, _, r, b, c, d⟩ | ⟨a, _⟩
    · rw [if_pos a] at hf
      simp only [List.mem_singleton] at hf
      subst hf
      exact ⟨by simp, b, by simp only [e2]; omega⟩
    · rw [if_neg (by omega), if_neg (by omega)] at hf
      simp only [List.mem_cons, List.mem_append, List.mem_map] at hf
      rcases hf with rfl | ⟨z, hz, rfl⟩ | ⟨p, hp, rfl⟩
      · exact ⟨by simp, by simp, by simp only [e1]; omega⟩
      · have := risOk_small r z hz
        exact ⟨by simp, this.1, by simp only [e2]; omega⟩
      · exact ⟨by simp, by cases p <;> simp [pinI], by simp only [e1]; cases p <;> simp [pinI]⟩
    · rw [if_neg (by omega), if_neg (by omega)] at hf
      simp only [List.mem_cons, List.mem_append, List.mem_map] at hf
      rcases hf with rfl | ⟨z, hz, rfl⟩ | ⟨p, hp, rfl⟩
      · exact ⟨by simp, by simp, by simp only [e1]; omega⟩
      · have := risOk_small r z hz
        exact ⟨by simp, this.1, by simp only [e2]; omega⟩
      · exact ⟨by simp, by cases p <;> simp [pinI], by simp only [e1]; cases p <;> simp [pinI]⟩
    · rw [if_neg (by omega), if_pos a] at hf
      simp only [List.mem_singleton] at hf
      subst hf
      exact ⟨by simp, s0, by simp only [e4]; omega⟩

end Go.Proofs.Ytfgnemddamebaaa
