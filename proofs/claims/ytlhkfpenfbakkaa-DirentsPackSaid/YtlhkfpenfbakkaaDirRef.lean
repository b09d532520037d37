/- Walks: entries of a directory by the document: a name; the block of a list. -/
import Derived.Test.YtlhkfpenfbakkaaDirWalks6
import Derived.Test.YtlhkfpenfbakkaaWordsWalks3R
set_option linter.unusedVariables false
set_option linter.unusedSimpArgs false
set_option maxRecDepth 100000
namespace Go.Proofs.Ytlhkfpenfbakkaa
open Go.RowKit Go.Joins

theorem nm_bad_at {s : ByteArray} {k : Nat} (h : k < s.size) (hb : (s[k]'h) = 0 ∨ (s[k]'h) = 47) : nmOk (bts s) = false := by
  rw [nmOk_bad]
  have hm : (s[k]'h) ∈ bts s := by
    have := bts_drop h
    have h2 : (s[k]'h) ∈ (bts s).drop k := by rw [this]; simp
    exact List.mem_of_mem_drop h2
  have : badP (bts s) = true := by
    rw [badP, List.any_eq_true]
    refine ⟨_, hm, ?_⟩
    rcases hb with e | e <;> rw [e] <;> decide
  rw [this]; simp
theorem nm_good {s : ByteArray} (h1 : 1 ≤ s.size) (h2 : s.size ≤ 32) (h : ∀ k (hk : k < s.size), (s[k]'hk) ≠ 0 ∧ (s[k]'hk) ≠ 47) : nmOk (bts s) = true := by
  rw [nmOk_bad, bts_length, decide_eq_true h1, decide_eq_true h2]
  have : badP (bts s) = false := by
    rw [badP, List.any_eq_false]
    intro x hx
    obtain ⟨k, hk, rfl⟩ := List.getElem_of_mem hx
    have hk' : k < s.size := by rw [← bts_length]; exact hk
    have := h k hk'
    have e : (bts s)[k] = s[k]'hk' := rfl
    rw [e]
    simp [this.1, this.2]
  rw [this]; rfl

theorem rname_any (s : ByteArray) (w : World) : Calls Try.prog 31 #[.string s] w fun e w' => e = .returned (.bool (nmOk (bts s))) ∧ w = w' := by
  by_cases h1 : s.size < 1
  · have h1' : (s.size : Int) < 1 := by omega
    have HN := Lib.hid (show nmOk (bts s) = false from by rw [nmOk_bad, bts_length, decide_eq_false (by omega)]; rfl)
    clear h1
    go_enter Try.func31, Try.ntmps31
    go_wp2_with fail
    go_ret
    rw [HN.out]
    exact ⟨rfl, rfl⟩
  have h1' : ¬ (s.size : Int) < 1 := by omega
  by_cases h2 : 32 < s.size
  · have h2' : (32 : Int) < (s.size : Int) := by omega
    have HN := Lib.hid (show nmOk (bts s) = false from by rw [nmOk_bad, bts_length, decide_eq_false (show ¬ s.size ≤ 32 by omega)]; simp)
    clear h1 h2
    go_enter Try.func31, Try.ntmps31
    go_wp2_with fail
    go_ret
    rw [HN.out]
    exact ⟨rfl, rfl⟩
  have h2' : ¬ (32 : Int) < (s.size : Int) := by omega
  have HL := Lib.hid (And.intro h1 h2)
  clear h1 h2
  go_enter Try.func31, Try.ntmps31
  go_wp2_with fail
  go_loopw [3] (fun jj wr => ∃ k : Nat, k ≤ s.size ∧ jj = .int .i64 k ∧ Hid (∀ j (hj : j < s.size), j < k → (s[j]'hj) ≠ 0 ∧ (s[j]'hj) ≠ 47) ∧ w = wr) (fun jj _ => s.size - (intOf jj).toNat)
  case atStart => exact ⟨0, by omega, rfl, fun j hj h => by omega, rfl⟩
  case round =>
    obtain ⟨k, hk, rfl, HA, rfl⟩ := hrel
    by_cases hlt : k < s.size
    · have p0 : (0 : Int) ≤ (k : Int) := by omega
      have p1 : (k : Int) < (s.size : Int) := by omega
      obtain ⟨c, hc⟩ : ∃ c : UInt8, s[k]'hlt = c := ⟨_, rfl⟩
      have hidx : ∀ w, (Instr.index 9 (.string s) (.int .i64 (k : Int))).run Try.prog w = .ok (.int .u8 (c.toNat : Int)) w := by
        intro w
        have hkk : (0 : Int) ≤ (k : Int) ∧ (k : Int) < (s.size : Int) := by omega
        have e1 : ((k : Int)).toNat = k := by omega
        simp [Instr.index, go_sem, Try.underlying9, e1, hlt, hc, asIntOf]
      by_cases h0 : c = 0
      · have q0 : ((c.toNat : Int) == 0) = true := by rw [h0]; rfl
        have HN := Lib.hid (nm_bad_at hlt (.inl (hc.trans h0)))
        clear hc h0
        go_wp2_with fail
        go_ret
        rw [HN.out]
        exact ⟨rfl, rfl⟩
      have q0 : ((c.toNat : Int) == 0) = false := by
        rw [beq_eq_false_iff_ne]
        intro e
        exact h0 (UInt8.toNat_inj.1 (by show c.toNat = 0; omega))
      by_cases h47 : c = 47
      · have q1 : ((c.toNat : Int) == 47) = true := by rw [h47]; rfl
        have HN := Lib.hid (nm_bad_at hlt (.inr (hc.trans h47)))
        clear hc h0 h47
        go_wp2_with fail
        go_ret
        rw [HN.out]
        exact ⟨rfl, rfl⟩
      have q1 : ((c.toNat : Int) == 47) = false := by
        rw [beq_eq_false_iff_ne]
        intro e
        exact h47 (UInt8.toNat_inj.1 (by show c.toNat = 47; omega))
      have HA2 : Hid (∀ j (hj : j < s.size), j < k + 1 → (s[j]'hj) ≠ 0 ∧ (s[j]'hj) ≠ 47) := by
        intro j hj hjk
        by_cases e : j < k
        · exact HA.out j hj e
        · obtain rfl : j = k := by omega
          rw [hc]; exact ⟨h0, h47⟩
      clear hc h0 h47
      go_wp2_with fail
      go_roundw
      case rel => exact ⟨k + 1, by omega, by go_num, HA2, by first | rfl | trivial⟩
      case measure => simp [intOf]; omega
    · obtain rfl : k = s.size := by omega
      have hnl : ¬ ((s.size : Int) < (s.size : Int)) := by omega
      have HN := Lib.hid (nm_good (s := s) (by have := HL.out.1; omega) (by have := HL.out.2; omega) (fun j hj => HA.out j hj hj))
      go_wp2_with fail
      go_ret
      rw [HN.out]
      exact ⟨rfl, rfl⟩

end Go.Proofs.Ytlhkfpenfbakkaa
