/- For every input the law glissadelaw11.InodesEncode returns true. -/
import Derived.Test.YtdeemaafngehoaaInoEnc1
import Derived.Test.YtdeemaafngehoaaInoEnc2
import Derived.Test.YtdeemaafngehoaaFrame
set_option linter.unusedVariables false
set_option linter.unusedSimpArgs false
set_option maxRecDepth 100000
namespace Go.Proofs.Ytdeemaafngehoaa
open Go.RowKit Go.Joins

theorem walk_inodesEncode (w : World) (x : Ino) (a : Option Addr) (cap : Nat) (hc : x.es.length ≤ cap) (_ : cap ≤ maxLen) (hE : EntS w a x.es) (hno : a = none → cap = 0) :
    Calls Try.prog 3 #[inoV x a cap] w fun e w' => e = .returned (.bool true) ∧ Below w.heap.size w w' := by
  by_cases hn : x.es.length ≤ 1000
  · have HK : Hid (∀ W a' cap', EntS W a' x.es → Calls Try.prog 19 #[inoV x a' cap'] W fun e w' => e = .returned (.bool x.ok) ∧ Below W.heap.size W w') := fun W a' cap' h => icheck_any x a' cap' W (by omega) h
    have HRK : Hid (∀ W a' cap', EntS W a' x.es → Calls Try.prog 20 #[inoV x a' cap'] W fun e w' => e = .returned (.bool x.ok) ∧ Below W.heap.size W w') := fun W a' cap' h => rcheck_any x a' cap' W (by omega) h
    have HS : Hid (∀ W a' b c1 c2, EntS W a' x.es → EntS W b x.es → Calls Try.prog 21 #[inoV x a' c1, inoV x b c2] W fun e w' => e = .returned (.bool true) ∧ Below W.heap.size W w') := by
      intro W a' b c1 c2 hE hF
      have := same11_any x x c1 c2 W (by omega) (by omega) hE hF
      rw [sameI_refl] at this
      exact this
    obtain ⟨Q, e0, HE, HR⟩ : ∃ Q e0, Hid (∀ W a' cap', EntS W a' x.es → Calls Try.prog 17 #[inoV x a' cap'] W fun e w' => e = .returned (.tuple #[.string Q, .int .i64 e0]) ∧ Below W.heap.size W w') ∧ Hid (∀ W a' cap', EntS W a' x.es → Calls Try.prog 18 #[inoV x a' cap'] W fun e w' => e = .returned (.tuple #[.string Q, .int .i64 e0]) ∧ Below W.heap.size W w') := by
      by_cases hk : x.ok = true
      · exact ⟨tx x.bytes, 0, fun W a' cap' h => ienc_yes x a' cap' W h hk, fun W a' cap' h => irenc_yes x a' cap' W h hk⟩
      · have hk' : x.ok = false := by simpa using hk
        exact ⟨⟨#[]⟩, 2, fun W a' cap' h => ienc_no x a' cap' W h (by omega) hk', fun W a' cap' h => irenc_no x a' cap' W h (by omega) hk'⟩
    obtain ⟨k, p, l, sz, d, es⟩ := x
    cases a with
    | none =>
      obtain rfl := hno rfl
      have he : es = [] := by
        rcases hE with h | ⟨B, o, h, _⟩
        · exact h
        · cases h
      subst he
      exact inoEnc_none w k p l sz d Q e0 _ HE HR HK HRK HS
    | some ad => exact inoEnc_core w k p l sz d ad es cap hE hn Q e0 _ HE HR HK HRK HS
  · have hn' : (1000 : Int) < (x.es.length : Int) := by omega
    clear hn
    go_enter Try.func3, Try.ntmps3
    go_wp2_with fail
    go_ret
    exact ⟨rfl, (Below.refl _ _).alloc (Nat.le_refl _) _⟩

/-! ### the frame (printed by mklaw.py) -/

set_option maxRecDepth 100000 in
theorem lifted_inodesEncode (os : Os) (started : os.Started) (H : Type) (enc : TypeId × Value → H) :
    ReturnsInHanded {} Try.checked os 3 .any (Rows.inodesEncodeSpec.pre6 enc Try.prog Try.f3 Rows.inodesEncodeRow.domain false) (Rows.inodesEncodeSpec.post enc Try.prog Try.f3 false true false false) := by
  refine law_step (C := Try.checked) (tb := 4) (by kernel_rfl) (by kernel_rfl) started (by kernel_rfl) Try.func3 rfl Try.underlying4 rfl ?_ ?_
    (ChangeSpec.witness6 (enc := enc) (C := Try.checked) false ⟨#[], #[.agg #[.int .i64 0, .bool false, .int .i64 0, .int .i64 0, .int .i64 0, .slice none 0 0]], []⟩ 8 (by kernel_rfl) (by kernel_rfl) (by kernel_rfl) (by kernel_rfl)) ?_
  · intro ds hl
    match ds, hl with
    | [d0], _ => rfl
  · intro t ht
    rw [show Try.f3.params.toList = [24] from by rw [Try.params3]] at ht
    simp only [List.mem_cons, List.not_mem_nil, or_false] at ht
    rcases ht with rfl
    · exact ⟨by kernel_rfl, of_decide_eq_true (by kernel_rfl)⟩
  · intro W args hG
    rw [show Try.f3.params.toList = [24] from by rw [Try.params3]] at hG
    obtain ⟨v0, rfl, g0⟩ := gotAll_args1 hG
    obtain ⟨k0, p0, l0, s0, d0, a0, cap0, es0, rfl, bk0, bl0, bs0, bd0, hc0, hm0, hE0, hz0, hn0⟩ := got_ino2 g0
    exact walk_inodesEncode W ⟨k0, p0, l0, s0, d0, es0⟩ a0 cap0 hc0 hm0 hE0 hn0

theorem inodesEncode_over : Rows.inodesEncodeRow.holds Try.pinned (OpenSpec.ofChange Rows.inodesEncodeSpec) :=
  OpenClaim.holds_of_wide 3 Try.f3 rfl rfl rfl rfl rfl rfl rfl ⟨rfl, rfl, rfl, rfl, rfl⟩ rfl rfl rfl rfl rfl (by kernel_rfl) Try.func3 (by kernel_rfl)
    (of_decide_eq_true (by kernel_rfl)) (by unfold Func.isWrapper; first | (rw [if_pos (by decide +kernel)]; kernel_rfl) | (rw [if_neg (by decide +kernel)]; exact ⟨rfl, rfl⟩))
    (fun os started H enc _ => lifted_inodesEncode os started H enc)

theorem inodesEncode_holds : Rows.InodesEncodeSaid := inodesEncode_over
#print axioms inodesEncode_holds

end Go.Proofs.Ytdeemaafngehoaa
