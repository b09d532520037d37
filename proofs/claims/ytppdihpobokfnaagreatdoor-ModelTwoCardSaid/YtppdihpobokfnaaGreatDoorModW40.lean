/- Walks: the model's laws' own functions: parts. -/
import Derived.Test.YtppdihpobokfnaaGreatDoorPlainPaths
import Derived.Test.YtppdihpobokfnaaGreatDoorGBase
set_option linter.unusedVariables false
set_option linter.unusedSimpArgs false
set_option maxRecDepth 100000
namespace Go.Proofs.YtppdihpobokfnaaGreatDoor
open Go.RowKit Go.Joins

theorem slashes_step {s : ByteArray} {k : Nat} (h : k < s.size) : slashes ((bts s).take (k + 1)) = slashes ((bts s).take k) + if (s[k]'h) = 47 then 1 else 0 := by
  have hk : k < (bts s).length := by simpa using h
  rw [List.take_succ_eq_append_getElem hk]
  have e : (bts s)[k]'hk = s[k]'h := by
    show s.data.toList[k]'_ = _
    rw [Array.getElem_toList]
    rfl
  unfold slashes
  rw [List.countP_append, e]
  by_cases c : (s[k]'h) = 47 <;> simp [c]
theorem slashes_le (l : Bs) : slashes l ≤ l.length := List.countP_le_length ..

set_option maxHeartbeats 4000000 in
theorem parts22 (s : ByteArray) (w : World) (hs : s.size ≤ 100000) :
    Calls Tryz.prog 16 #[.string s] w fun e w' => e = .returned (.int .i64 (slashes (bts s) : Int)) ∧ w' = w := by
  have h1 : (s.size : Int) ≤ 100000 := by omega
  have HS := Lib.hid hs
  clear hs
  go_enter Tryz.func16, Tryz.ntmps16
  go_wp2_with fail
  go_loopw [3, 4] (fun nn jj wr => ∃ k z : Nat, k ≤ s.size ∧ jj = .int .i64 (k : Int) ∧ nn = .int .i64 (z : Int) ∧ Hid (z = slashes ((bts s).take k) ∧ z ≤ k) ∧ w = wr) (fun _ jj _ => s.size - (intOf jj).toNat)
  case atStart => exact ⟨0, 0, by omega, rfl, rfl, ⟨rfl, by omega⟩, rfl⟩
  case round =>
    obtain ⟨k, z, hk, rfl, rfl, HA, rfl⟩ := hrel
    by_cases hlt : k < s.size
    · have p0 : (0 : Int) ≤ (k : Int) := by omega
      have p1 : (k : Int) < (s.size : Int) := by omega
      have pz : (0 : Int) ≤ (z : Int) ∧ (z : Int) ≤ 100000 := by have := HA.out.2; omega
      obtain ⟨c, hc⟩ : ∃ c : UInt8, s[k]'hlt = c := ⟨_, rfl⟩
      have hidx : ∀ w, (Instr.index 9 (.string s) (.int .i64 (k : Int))).run Tryz.prog w = .ok (.int .u8 (c.toNat : Int)) w := by
        intro w
        have hkk : (0 : Int) ≤ (k : Int) ∧ (k : Int) < (s.size : Int) := by omega
        have e1 : ((k : Int)).toNat = k := by omega
        simp [Instr.index, go_sem, Tryz.underlying9, e1, hlt, hc, asIntOf]
      have HST := Lib.hid (slashes_step hlt)
      by_cases h0 : c = 47
      · have q0 : ((c.toNat : Int) == 47) = true := by rw [h0]; rfl
        have HK : Hid (z + 1 = slashes ((bts s).take (k + 1)) ∧ z + 1 ≤ k + 1) := ⟨by rw [HST.out, if_pos (hc.trans h0), HA.out.1], by have := HA.out.2; omega⟩
        clear hc h0 HA HST
        go_wp2_with fail
        go_roundw
        case rel => exact ⟨k + 1, z + 1, by omega, by go_num, by go_num, HK, trivial⟩
        case measure => simp [intOf]; omega
      · have q0 : ((c.toNat : Int) == 47) = false := by
          rw [beq_eq_false_iff_ne]
          intro q
          exact h0 (UInt8.toNat_inj.1 (by simpa using (show c.toNat = 47 by omega)))
        have HK : Hid (z = slashes ((bts s).take (k + 1)) ∧ z ≤ k + 1) := ⟨by rw [HST.out, if_neg (by rw [hc]; exact h0), HA.out.1]; rfl, by have := HA.out.2; omega⟩
        clear hc h0 HA HST
        go_wp2_with fail
        go_roundw
        case rel => exact ⟨k + 1, z, by omega, by go_num, rfl, HK, trivial⟩
        case measure => simp [intOf]; omega
    · obtain rfl : k = s.size := by omega
      have hnl : ¬ ((s.size : Int) < (s.size : Int)) := by omega
      go_wp2_with fail
      go_ret
      refine ⟨?_, rfl⟩
      rw [HA.out.1, List.take_of_length_le (by simp)]
      rfl

end Go.Proofs.YtppdihpobokfnaaGreatDoor
