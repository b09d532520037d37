/- Walks: names and paths by the document: Name, Check, Join. -/
import Derived.Test.YtppdihpobokfnaaGreatDoorGNam
set_option linter.unusedVariables false
set_option linter.unusedSimpArgs false
set_option maxRecDepth 100000
namespace Go.Proofs.YtppdihpobokfnaaGreatDoor
open Go.RowKit Go.Joins

theorem bts_drop {s : ByteArray} {k : Nat} (h : k < s.size) : (bts s).drop k = (s[k]'h) :: (bts s).drop (k + 1) := by
  have hl : k < (bts s).length := by rw [bts_length]; exact h
  rw [List.drop_eq_getElem_cons hl]
  congr 1
theorem nm_bad_at {s : ByteArray} {k : Nat} (h : k < s.size) (hb : (s[k]'h) = 0 ∨ (s[k]'h) = 47) : nmOk (bts s) = false := by
  rw [nmOk_bad]
  have hm : (s[k]'h) ∈ bts s := by
    have := bts_drop h
    have h2 : (s[k]'h) ∈ (bts s).drop k := by rw [this]; simp
    exact List.mem_of_mem_drop h2
  have : badP (bts s) = true := by
    rw [badP, List.any_eq_true]
    refine ⟨_, hm, ?_⟩
    rcases hb with e | e <;> rw [e] <;> decide
  rw [this]; simp
theorem nm_good {s : ByteArray} (h1 : 1 ≤ s.size) (h2 : s.size ≤ 32) (h : ∀ k (hk : k < s.size), (s[k]'hk) ≠ 0 ∧ (s[k]'hk) ≠ 47) : nmOk (bts s) = true := by
  rw [nmOk_bad, bts_length, decide_eq_true h1, decide_eq_true h2]
  have : badP (bts s) = false := by
    rw [badP, List.any_eq_false]
    intro x hx
    obtain ⟨k, hk, rfl⟩ := List.getElem_of_mem hx
    have hk' : k < s.size := by rw [← bts_length]; exact hk
    have := h k hk'
    have e : (bts s)[k] = s[k]'hk' := rfl
    rw [e]
    simp [this.1, this.2]
  rw [this]; rfl

theorem rname_any (s : ByteArray) (w : World) : Calls Tryz.prog 133 #[.string s] w fun e w' => e = .returned (.bool (nmOk (bts s))) ∧ w = w' := by
  by_cases h1 : s.size < 1
  · have h1' : (s.size : Int) < 1 := by omega
    have HN := Lib.hid (show nmOk (bts s) = false from by rw [nmOk_bad, bts_length, decide_eq_false (by omega)]; rfl)
    clear h1
    go_enter Tryz.func133, Tryz.ntmps133
    go_wp2_with fail
    go_ret
    rw [HN.out]
    exact ⟨rfl, rfl⟩
  have h1' : ¬ (s.size : Int) < 1 := by omega
  by_cases h2 : 32 < s.size
  · have h2' : (32 : Int) < (s.size : Int) := by omega
    have HN := Lib.hid (show nmOk (bts s) = false from by rw [nmOk_bad, bts_length, decide_eq_false (show ¬ s.size ≤ 32 by omega)]; simp)
    clear h1 h2
    go_enter Tryz.func133, Tryz.ntmps133
    go_wp2_with fail
    go_ret
    rw [HN.out]
    exact ⟨rfl, rfl⟩
  have h2' : ¬ (32 : Int) < (s.size : Int) := by omega
  have HL := Lib.hid (And.intro h1 h2)
  clear h1 h2
  go_enter Tryz.func133, Tryz.ntmps133
  go_wp2_with fail
  go_loopw [3] (fun jj wr => ∃ k : Nat, k ≤ s.size ∧ jj = .int .i64 k ∧ Hid (∀ j (hj : j < s.size), j < k → (s[j]'hj) ≠ 0 ∧ (s[j]'hj) ≠ 47) ∧ w = wr) (fun jj _ => s.size - (intOf jj).toNat)
  case atStart => exact ⟨0, by omega, rfl, fun j hj h => by omega, rfl⟩
  case round =>
    obtain ⟨k, hk, rfl, HA, rfl⟩ := hrel
    by_cases hlt : k < s.size
    · have p0 : (0 : Int) ≤ (k : Int) := by omega
      have p1 : (k : Int) < (s.size : Int) := by omega
      obtain ⟨c, hc⟩ : ∃ c : UInt8, s[k]'hlt = c := ⟨_, rfl⟩
      have hidx : ∀ w, (Instr.index 9 (.string s) (.int .i64 (k : Int))).run Tryz.prog w = .ok (.int .u8 (c.toNat : Int)) w := by
        intro w
        have hkk : (0 : Int) ≤ (k : Int) ∧ (k : Int) < (s.size : Int) := by omega
        have e1 : ((k : Int)).toNat = k := by omega
        simp [Instr.index, go_sem, Tryz.underlying9, e1, hlt, hc, asIntOf]
      by_cases h0 : c = 0
      · have q0 : ((c.toNat : Int) == 0) = true := by rw [h0]; rfl
        have HN := Lib.hid (nm_bad_at hlt (.inl (hc.trans h0)))
        clear hc h0
        go_wp2_with fail
        go_ret
        rw [HN.out]
        exact ⟨rfl, rfl⟩
      have q0 : ((c.toNat : Int) == 0) = false := by
        rw [beq_eq_false_iff_ne]
        intro e
        exact h0 (UInt8.toNat_inj.1 (by show c.toNat = 0; omega))
      by_cases h47 : c = 47
      · have q1 : ((c.toNat : Int) == 47) = true := by rw [h47]; rfl
        have HN := Lib.hid (nm_bad_at hlt (.inr (hc.trans h47)))
        clear hc h0 h47
        go_wp2_with fail
        go_ret
        rw [HN.out]
        exact ⟨rfl, rfl⟩
      have q1 : ((c.toNat : Int) == 47) = false := by
        rw [beq_eq_false_iff_ne]
        intro e
        exact h47 (UInt8.toNat_inj.1 (by show c.toNat = 47; omega))
      have HA2 : Hid (∀ j (hj : j < s.size), j < k + 1 → (s[j]'hj) ≠ 0 ∧ (s[j]'hj) ≠ 47) := by
        intro j hj hjk
        by_cases e : j < k
        · exact HA.out j hj e
        · obtain rfl : j = k := by omega
          rw [hc]; exact ⟨h0, h47⟩
      clear hc h0 h47
      go_wp2_with fail
      go_roundw
      case rel => exact ⟨k + 1, by omega, by go_num, HA2, by first | rfl | trivial⟩
      case measure => simp [intOf]; omega
    · obtain rfl : k = s.size := by omega
      have hnl : ¬ ((s.size : Int) < (s.size : Int)) := by omega
      have HN := Lib.hid (nm_good (s := s) (by have := HL.out.1; omega) (by have := HL.out.2; omega) (fun j hj => HA.out j hj hj))
      go_wp2_with fail
      go_ret
      rw [HN.out]
      exact ⟨rfl, rfl⟩


/-- a text of bytes -/
def tx (l : List UInt8) : ByteArray := ⟨l.toArray⟩
theorem tx_size (l : List UInt8) : (tx l).size = l.length := by simp [tx, ByteArray.size]
theorem tx_bts (l : List UInt8) : bts (tx l) = l := by simp [tx]
/-- what Join answers -/
def JoinR (l : List ByteArray) (w : World) (e : Ending) (w' : World) : Prop :=
  e = .returned (.tuple #[.string (tx (joinP (l.map bts)).1), .int .i64 (joinP (l.map bts)).2]) ∧ Below w.heap.size w w'
theorem join_bad {l : List ByteArray} {w w' : World} {z : Int} (h : joinP (l.map bts) = ([], z)) (hb : Below w.heap.size w w') : JoinR l w (.returned (.tuple #[.string ⟨#[]⟩, .int .i64 z])) w' := by
  refine ⟨?_, hb⟩
  rw [h]; rfl
theorem flat_one (x : List UInt8) : flat [x] = 47 :: x := by simp [flat]
theorem joinP_no {l : List ByteArray} (h : (l.all fun s => nmOk (bts s)) = false) : joinP (l.map bts) = ([], 130) := by
  rw [joinP, if_neg]
  rw [List.all_map]
  intro h2
  rw [show (l.all (nmOk ∘ bts)) = (l.all fun s => nmOk (bts s)) from rfl, h] at h2
  cases h2
theorem joinP_many {l : List ByteArray} (h : (l.all fun s => nmOk (bts s)) = true) (h2 : 16 < l.length ∨ 256 < (pathS (l.map bts)).length) : joinP (l.map bts) = ([], 3) := by
  rw [joinP, if_pos (by rw [List.all_map]; exact h), if_pos (by rw [List.length_map]; exact h2)]
theorem joinP_yes {l : List ByteArray} (h : (l.all fun s => nmOk (bts s)) = true) (h2 : ¬ 16 < l.length) (h3 : ¬ 256 < (pathS (l.map bts)).length) : joinP (l.map bts) = (pathS (l.map bts), 0) := by
  rw [joinP, if_pos (by rw [List.all_map]; exact h), if_neg (by rw [List.length_map]; omega)]
theorem flat_len {xs : List (List UInt8)} (h : ∀ x ∈ xs, nmOk x = true) : (flat xs).length ≤ 33 * xs.length := by
  induction xs with
  | nil => simp [flat]
  | cons x xs ih =>
    have h1 := ih fun y hy => h y (List.mem_cons_of_mem _ hy)
    have h2 := (nmOk_iff.1 (h x (by simp))).2.1
    rw [flat, List.length_cons, List.length_append, List.length_cons]
    omega
theorem flat_take {l : List ByteArray} {k : Nat} {x : ByteArray} (hx : l[k]? = some x) : flat ((l.take (k + 1)).map bts) = flat ((l.take k).map bts) ++ (47 :: bts x) := by
  obtain ⟨hk, e⟩ := List.getElem?_eq_some_iff.1 hx
  rw [List.take_succ_eq_append_getElem hk, e, List.map_append, flat_append, List.map_cons, List.map_nil, flat_one]

end Go.Proofs.YtppdihpobokfnaaGreatDoor
