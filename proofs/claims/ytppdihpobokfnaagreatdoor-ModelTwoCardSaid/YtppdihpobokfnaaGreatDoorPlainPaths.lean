/- Plain: a path that goes into a directory of the root and back leads where it leads without that. No function in sight. -/
import Derived.Test.YtppdihpobokfnaaGreatDoorGPlain
set_option linter.unusedVariables false
set_option linter.unusedSimpArgs false
namespace Go.Proofs.YtppdihpobokfnaaGreatDoor
open Go Go.RowKit

/-- how many slashes a text has -/
def slashes (p : Bs) : Nat := p.countP fun b => b == 47
theorem pieces_slash : ∀ r : Bs, (pieces r).length = slashes r + 1
  | [] => rfl
  | c :: l => by
    have ih := pieces_slash l
    rw [pieces]
    unfold slashes at *
    rw [List.countP_cons]
    by_cases h : c = 47
    · rw [if_pos h, List.length_cons, ih]; simp [h]
    · rw [if_neg h]
      have hne := pieces_ne l
      cases hp : pieces l with
      | nil => exact absurd hp hne
      | cons x t =>
        rw [hp] at ih
        simp [h] at ih ⊢
        omega
/-- a path's parts, where it is not too long -/
theorem splitP_cut {r : Bs} (hr : r ≠ []) (h1 : r.length + 1 ≤ 256) (h2 : slashes r + 1 ≤ 16) : splitP (47 :: r) = if (pieces r).all nmOk then (pieces r, 0) else ([], 130) := by
  unfold splitP
  rw [if_neg (by simp; omega)]
  simp only [if_true, hr, if_false]
  rw [if_neg (show ¬ 16 < (pieces r).length by rw [pieces_slash]; omega)]
/-- parts ahead of a path -/
theorem splitP_ahead {x : Bs} {r : Bs} (hx : nmOk x = true) (hr : r ≠ []) (h1 : x.length + r.length + 2 ≤ 256) (h2 : slashes r + 2 ≤ 16) : splitP (47 :: (x ++ 47 :: r)) = if (splitP (47 :: r)).2 = 0 then (x :: (splitP (47 :: r)).1, 0) else ([], 130) := by
  have hsl := nmOk_slash hx
  have hp : pieces (x ++ 47 :: r) = x :: pieces r := by
    have e : 47 :: r = flat (pieces r) := (flat_pieces r).symm
    rw [e]
    refine pieces_flat (pieces r) x (fun y hy => ?_)
    rcases List.mem_cons.1 hy with rfl | hy
    · exact hsl
    · exact pieces_clean r y hy
  have hc : slashes (x ++ 47 :: r) = slashes r + 1 := by
    have := pieces_slash (x ++ 47 :: r)
    rw [hp, List.length_cons, pieces_slash] at this
    omega
  rw [splitP_cut (r := x ++ 47 :: r) (by simp) (by simp; omega) (by rw [hc]; omega), splitP_cut hr (by omega) (by omega), hp, List.all_cons, hx, Bool.true_and]
  by_cases c : (pieces r).all nmOk = true
  · rw [if_pos c, if_pos c, if_pos rfl]
  · rw [if_neg c, if_neg c, if_neg (by simp)]
/-- one part alone -/
theorem splitP_one {x : Bs} (hx : (47 : UInt8) ∉ x) (hne : x ≠ []) (h1 : x.length + 1 ≤ 256) : splitP (47 :: x) = if nmOk x = true then ([x], 0) else ([], 130) := by
  have hp : pieces x = [x] := by
    have := pieces_flat [] x (fun y hy => by rw [List.mem_singleton.1 hy]; exact hx)
    simpa [flat] using this
  have hc : slashes x = 0 := by
    have := pieces_slash x
    rw [hp] at this
    simpa using this.symm
  rw [splitP_cut hne h1 (by omega), hp]
  cases h : nmOk x <;> simp [h]

section
variable {N : Nat} {X : Nat → Prop} {m : Md} {k : Nat} {x r : Bs}
theorem walk_dot (h : Inv N X m) (ps : List Bs) : walkFrom m 0 ([46] :: ps) = walkFrom m 0 ps := by
  obtain ⟨d, h1, h2, _⟩ := h.root
  rw [walkFrom]
  have hs : stepP m 0 [46] = (0, 0) := by
    unfold stepP
    rw [Md.get_look h1, if_neg (by simpa using h2), if_pos rfl]
  rw [hs, if_neg (by simp)]
/-- into a directory of the root, and back -/
theorem walk_back (h : Inv N X m) {x : Bs} (hx : (stepP m 0 x).2 = 0) (hd : (m.get (stepP m 0 x).1).kind = 2) (ps : List Bs) : walkFrom m 0 (x :: [46, 46] :: ps) = walkFrom m 0 ps := by
  obtain ⟨d0, h1, h2, h3⟩ := h.root
  rw [walkFrom, if_neg (by simpa using hx), walkFrom]
  have hs : stepP m (stepP m 0 x).1 [46, 46] = (0, 0) := by
    have hback : (m.get (stepP m 0 x).1).par = 0 := by
      have hx2 := hx
      unfold stepP at hx2 ⊢
      rw [Md.get_look h1] at hx2 ⊢
      rw [if_neg (by simpa using h2)] at hx2 ⊢
      by_cases c1 : x = [46]
      · rw [if_pos c1]; show (m.get 0).par = 0; rw [Md.get_look h1]; exact h3
      rw [if_neg c1] at hx2 ⊢
      by_cases c2 : x = [46, 46]
      · rw [if_pos c2]; show (m.get d0.par).par = 0; rw [h3, Md.get_look h1]; exact h3
      rw [if_neg c2] at hx2 ⊢
      cases hl : lookN d0.names x with
      | none => rw [hl] at hx2; simp at hx2
      | some j =>
        have hm := h.mem_look h1 hl
        obtain ⟨_, d, hdj, hp⟩ := h.there _ hm
        simp only [] at hdj hp
        show (m.get j).par = 0
        rw [Md.get_look hdj]
        refine hp ?_
        have hd' := hd
        unfold stepP at hd'
        rw [Md.get_look h1, if_neg (by simpa using h2), if_neg c1, if_neg c2, hl] at hd'
        simpa [Md.get_look hdj] using hd'
    unfold stepP at hback ⊢
    rw [if_neg (by exact fun q => q hd), if_neg (by simp), if_pos rfl]
    exact Prod.ext hback rfl
  rw [hs, if_neg (by simp)]
theorem find_dot (h : Inv N X m) (hr : r ≠ []) (h1 : r.length ≤ 250) (h2 : slashes r ≤ 13) : findP m (47 :: ([46] ++ 47 :: r)) = findP m (47 :: r) := by
  unfold findP
  rw [splitP_ahead (x := [46]) rfl hr (by simp; omega) (by omega)]
  by_cases c : (splitP (47 :: r)).2 = 0
  · rw [if_pos c, if_neg (by simp), if_neg (by simpa using c)]
    exact walk_dot h _
  · have hc : (splitP (47 :: r)).2 = 130 := by
      rw [splitP_cut hr (by omega) (by omega)] at c ⊢
      split at c
      · exact absurd rfl c
      · rename_i q; rw [if_neg q]
    rw [if_neg c, if_pos (by simp), if_pos (by simpa using c), hc]
theorem find_back (h : Inv N X m) (hx47 : (47 : UInt8) ∉ x) (hxl : x.length ≤ 30) (hf : (findP m (47 :: x)).2 = 0) (hd : (m.get (findP m (47 :: x)).1).kind = 2) (hxn : x ≠ []) (hr : r ≠ []) (h1 : r.length ≤ 200) (h2 : slashes r ≤ 13) : findP m (47 :: (x ++ 47 :: ([46, 46] ++ 47 :: r))) = findP m (47 :: r) := by
  have hsx := splitP_one hx47 hxn (by omega)
  have hnm : nmOk x = true := by
    refine Classical.byContradiction fun c => ?_
    unfold findP at hf
    rw [hsx, if_neg c] at hf
    simp at hf
  rw [if_pos hnm] at hsx
  have hf1 : findP m (47 :: x) = walkFrom m 0 [x] := by
    unfold findP
    rw [hsx, if_neg (by simp)]
  have hst : (stepP m 0 x).2 = 0 ∧ (m.get (stepP m 0 x).1).kind = 2 := by
    rw [hf1, walkFrom] at hf hd
    by_cases c : (stepP m 0 x).2 ≠ 0
    · rw [if_pos c] at hf; exact absurd hf c
    · rw [if_neg c, walkFrom] at hd
      exact ⟨by simpa using c, hd⟩
  have hl2 : slashes ([46, 46] ++ 47 :: r) = slashes r + 1 := by simp [slashes]
  unfold findP
  rw [splitP_ahead hnm (by simp) (by simp; omega) (by rw [hl2]; omega), splitP_ahead (x := [46, 46]) rfl hr (by simp; omega) (by omega)]
  by_cases c : (splitP (47 :: r)).2 = 0
  · rw [if_pos c, if_pos rfl, if_neg (by simp), if_neg (by simpa using c)]
    exact walk_back h hst.1 hst.2 _
  · have hc : (splitP (47 :: r)).2 = 130 := by
      rw [splitP_cut hr (by omega) (by omega)] at c ⊢
      split at c
      · exact absurd rfl c
      · rename_i q; rw [if_neg q]
    simp [c, hc]
end

end Go.Proofs.YtppdihpobokfnaaGreatDoor
