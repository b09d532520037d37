/- Plain: a call that answers an error leaves all as it is. No function in sight. Plain: a name that is moved, and moved back, leaves all that can be seen; one that is linked, and unlinked, too. No function in sight. Plain: a name that is moved, and moved back, leaves all that can be seen. No function in sight. Plain: never more links than may be. No function in sight. Plain: what can be seen of a model is a tree. No function in sight. Plain: a path without parts that are . or .., gone through letter by letter. No function in sight. Plain: how many nodes may be stays; paths that are seen are not long; counts in a view, step by step. No function in sight. -/
import Derived.Test.YtppdihpobokfnaaGreatDoorGPlain
set_option linter.unusedVariables false
set_option linter.unusedSimpArgs false
namespace Go.Proofs.YtppdihpobokfnaaGreatDoor
open Go Go.RowKit

/-- an error leaves all as it is, and is alone -/
def Refused (m : Md) (r : An × Md) : Prop := r.1.e ≠ 0 → r = (failA r.1.e, m)
section
variable {m m1 : Md} {c : Cl} {k : Nat} {r : An × Md}
theorem Refused.fail (m : Md) (e : Int) : Refused m (failA e, m) := fun _ => rfl
theorem Refused.zero (h : r.1.e = 0) : Refused m r := fun q => absurd h q
theorem free_full {l : List Sl} (h : firstFree l = none) : tFull l = true := by
  unfold firstFree at h
  rw [List.findIdx?_eq_none_iff] at h
  unfold tFull
  rw [List.all_eq_true]
  intro s hs
  have := h s hs
  simpa using this
theorem openAt_e (h2 : (m.get k).kind ≠ 2) (hf : tFull m.tab ≠ true) : (openAt m c k).1.e = 0 := by
  unfold openAt
  rw [if_neg h2]
  have ht : (if c.n / 4 = 1 then m.set k fun n => { n with data := [] } else m).tab = m.tab := by split <;> rfl
  show (tOpen (if c.n / 4 = 1 then m.set k fun n => { n with data := [] } else m).tab k).2.2 = 0
  rw [ht]
  unfold tOpen
  rw [if_neg (by omega)]
  cases hc : firstFree m.tab with
  | none => exact absurd (free_full hc) hf
  | some i => rfl
theorem openAt_dir (h2 : (m.get k).kind = 2) : openAt m c k = (failA 213, m) := by
  unfold openAt
  rw [if_pos h2]
theorem fresh_tab {a : Pl} {kind : Int} : (freshP m a kind).2.tab = m.tab := by
  unfold freshP
  split <;> rfl
theorem Refused.openP (hG : Good m) (c : Cl) : Refused m (Go.Proofs.YtppdihpobokfnaaGreatDoor.openP m c) := by
  unfold Go.Proofs.YtppdihpobokfnaaGreatDoor.openP
  split
  · exact .fail m _
  split
  · exact .fail m _
  split
  · exact .fail m _
  rename_i hfull
  split
  · simp only
    split
    · exact .fail m _
    rename_i ha
    split
    · exact .fail m _
    rename_i hf
    refine .zero ?_
    have ha0 : (missingP m c (walkFrom m 0 (splitP (bts c.p)).1).2).2 = 0 := by simpa using ha
    have hloc : There m (missingP m c (walkFrom m 0 (splitP (bts c.p)).1).2).1.dir := by
      unfold missingP at ha0 ⊢
      split at ha0
      · rename_i q1 q2
        simp only at ha0
        exact absurd ha0 q1
      · rename_i q1 q2
        rw [if_neg q2]
        split at ha0
        · simp only at ha0; exact absurd ha0 q1
        · rename_i q3
          rw [if_neg q3]
          obtain ⟨dd, h1, _⟩ := locateP_ok hG (by simpa using q3)
          exact ⟨dd, h1⟩
    have hnew := freshP_new hG hloc (by simpa using hf)
    exact openAt_e (by rw [Md.get_look hnew]; simp [freshN]) (by rw [fresh_tab]; exact hfull)
  · split
    · exact .fail m _
    · by_cases h2 : (m.get (walkFrom m 0 (splitP (bts c.p)).1).1).kind = 2
      · rw [openAt_dir h2]; exact .fail m _
      · exact .zero (openAt_e h2 hfull)
theorem Refused.closeP (c : Cl) : Refused m (Go.Proofs.YtppdihpobokfnaaGreatDoor.closeP m c) := by
  cases hs : slotOf m.tab c.fd with
  | none =>
    have : Go.Proofs.YtppdihpobokfnaaGreatDoor.closeP m c = (failA 220, m) := by
      unfold Go.Proofs.YtppdihpobokfnaaGreatDoor.closeP tClose
      rw [hs]
      simp
    rw [this]
    exact .fail m _
  | some s =>
    refine .zero ?_
    unfold Go.Proofs.YtppdihpobokfnaaGreatDoor.closeP tClose
    rw [hs]
    rfl
/-- A CALL THAT ANSWERS AN ERROR LEAVES ALL AS IT IS -/
theorem Refused.doP (hG : Good m) (c : Cl) : Refused m (Go.Proofs.YtppdihpobokfnaaGreatDoor.doP m c) := by
  unfold Go.Proofs.YtppdihpobokfnaaGreatDoor.doP
  split
  · exact .openP hG c
  · exact .closeP c
  · unfold readP
    split
    · exact .fail m _
    · split
      · exact .fail m _
      · exact .zero rfl
  · unfold putP
    split
    · exact .fail m _
    · split
      · exact .fail m _
      split
      · exact .fail m _
      split
      · exact .zero rfl
      · exact .zero rfl
  · unfold seekP
    split
    · exact .fail m _
    · exact .zero rfl
  · unfold resizeP
    split
    · exact .fail m _
    · split
      · exact .fail m _
      split
      · exact .fail m _
      · exact .zero rfl
  · unfold mkdirP
    simp only
    split
    · exact .fail m _
    split
    · exact .fail m _
    split
    · exact .fail m _
    split
    · exact .fail m _
    · exact .zero rfl
  · unfold rmdirP
    simp only
    split
    · exact .fail m _
    split
    · exact .fail m _
    split
    · exact .fail m _
    · exact .zero rfl
  · unfold lnkP
    simp only
    split
    · exact .fail m _
    split
    · exact .fail m _
    split
    · exact .fail m _
    split
    · exact .fail m _
    split
    · exact .fail m _
    · exact .zero rfl
  · unfold unlinkP
    simp only
    split
    · exact .fail m _
    split
    · exact .fail m _
    · exact .zero rfl
  · unfold renameP
    simp only
    split
    · exact .fail m _
    split
    · exact .fail m _
    split
    · exact .zero rfl
    split
    · exact .fail m _
    · exact .zero rfl
  · unfold listP
    simp only
    split
    · exact .fail m _
    split
    · exact .fail m _
    · exact .zero rfl
  · unfold statP
    simp only
    split
    · exact .fail m _
    · exact .zero rfl
  · unfold fstatP
    split
    · exact .fail m _
    · exact .zero rfl
  · unfold pinP
    simp only
    split
    · exact .fail m _
    · exact .zero rfl
  · exact .fail m _
  · exact .zero rfl
  · exact .zero rfl
  · exact .zero rfl
  · exact .zero rfl
  · exact .fail m _
end

end Go.Proofs.YtppdihpobokfnaaGreatDoor

set_option linter.unusedVariables false
set_option linter.unusedSimpArgs false
namespace Go.Proofs.YtppdihpobokfnaaGreatDoor
open Go Go.RowKit

/-- a path without parts that are . or .. -/
def Dotless (xs : List Bs) : Prop := ∀ x ∈ xs, x ≠ [46] ∧ x ≠ [46, 46]
def plainP (p : Bs) : Bool := (pieces p).all fun x => !(x == [46]) && !(x == [46, 46])
theorem plain_parts {p : Bs} (h : plainP p = true) (h0 : (splitP p).2 = 0) : Dotless (splitP p).1 := by
  obtain ⟨⟨h1, _, _⟩, h2⟩ := splitP_ok (p := p) (xs := (splitP p).1) (Prod.ext rfl h0)
  generalize (splitP p).1 = xs at *
  intro x hx
  have hne : xs ≠ [] := fun e => by rw [e] at hx; cases hx
  have hp : pieces p = [] :: xs := by
    rw [h2, pathS, if_neg hne]
    have := pieces_flat xs [] (fun y hy => by
      rcases List.mem_cons.1 hy with rfl | hy
      · simp
      · exact all_slash h1 y hy)
    simpa using this
  unfold plainP at h
  rw [hp, List.all_cons, Bool.and_eq_true, List.all_eq_true] at h
  have := h.2 x hx
  simpa using this

section
variable {N : Nat} {X : Nat → Prop} {m m1 : Md} {a b d j k t : Nat} {x dd : Nd} {s : Bs} {ps qs : List Bs} {p : Bs}
theorem get_kind2 (h : (m.get k).kind = 2) : ∃ d, lookK m.nodes k = some d ∧ d.kind = 2 := by
  cases hk : lookK m.nodes k with
  | none =>
    rw [Md.get, hk] at h
    exact absurd h (by decide)
  | some d =>
    rw [Md.get_look hk] at h
    exact ⟨d, rfl, h⟩
theorem step_name (hj : lookK m.nodes j = some x) (h2 : x.kind = 2) (hs : s ≠ [46] ∧ s ≠ [46, 46]) : stepP m j s = match lookN x.names s with | some k => (k, 0) | none => (0, 210) := by
  unfold stepP
  rw [Md.get_look hj, if_neg (by simpa using h2), if_neg hs.1, if_neg hs.2]
  cases lookN x.names s <;> rfl
theorem step_name_inv (he : (stepP m j s).2 = 0) (hs : s ≠ [46] ∧ s ≠ [46, 46]) : ∃ x k, lookK m.nodes j = some x ∧ x.kind = 2 ∧ lookN x.names s = some k ∧ stepP m j s = (k, 0) := by
  by_cases c : (m.get j).kind = 2
  · obtain ⟨x, hx, h2⟩ := get_kind2 c
    rw [step_name hx h2 hs] at he ⊢
    cases hk : lookN x.names s with
    | none => rw [hk] at he; simp at he
    | some k => exact ⟨x, k, hx, h2, hk, rfl⟩
  · unfold stepP at he
    rw [if_pos c] at he
    simp at he
theorem walk_cons (h : (stepP m j s).2 = 0) : walkFrom m j (s :: ps) = walkFrom m (stepP m j s).1 ps := by
  rw [walkFrom, if_neg (by simpa using h)]
theorem walk_cons_ok (h : (walkFrom m j (s :: ps)).2 = 0) : (stepP m j s).2 = 0 := by
  rw [walkFrom] at h
  by_cases c : (stepP m j s).2 ≠ 0
  · rw [if_pos c] at h; exact absurd h c
  · simpa using c
theorem Up.dir (h : Inv N X m) (hu : Up m a b) (ha : Dir m a) : Dir m b := by
  induction hu with
  | refl => exact ha
  | step h1 h2 h3 _ ih => exact ih (h.pardir h1 h2)
/-- what a walk by names leads to lies beneath -/
theorem walk_up (h : Inv N X m) : ∀ (ps : List Bs) (j : Nat), Dotless ps → (walkFrom m j ps).2 = 0 → Dir m (walkFrom m j ps).1 → Up m (walkFrom m j ps).1 j
  | [], j, _, _, _ => .refl j
  | s :: ps, j, hd, he, ht => by
    have hs := walk_cons_ok he
    obtain ⟨x, k, h1, h2, h3, h4⟩ := step_name_inv hs (hd s (by simp))
    rw [walk_cons hs, h4] at he ht ⊢
    have hu := walk_up h ps k (fun y hy => hd y (List.mem_cons_of_mem _ hy)) he ht
    obtain ⟨dk, hk, hk2⟩ := Up.dir h hu ht
    obtain ⟨hz, dk', hk', hp⟩ := h.there _ (h.mem_look h1 h3)
    simp only [] at hz hk' hp
    rw [hk] at hk'
    cases hk'
    exact hu.trans (.step hk hk2 hz (by rw [hp hk2]; exact .refl j))
/-- a walk by names goes on as before where one name is gone, or goes by that name -/
theorem walk_avoid {da ka : Nat} {na : Bs} (H : ∀ j x, lookK m.nodes j = some x → ∃ x1, lookK m1.nodes j = some x1 ∧ x1.kind = x.kind ∧ ∀ s k, ¬ (j = da ∧ s = na) → lookN x.names s = some k → lookN x1.names s = some k)
    (hda : lookK m.nodes da = some dd) (hka : lookN dd.names na = some ka) : ∀ (ps : List Bs) (j : Nat), Dotless ps → (walkFrom m j ps).2 = 0 → walkFrom m1 j ps = walkFrom m j ps ∨ ∃ qs, Dotless qs ∧ walkFrom m ka qs = walkFrom m j ps
  | [], j, _, _ => .inl rfl
  | s :: ps, j, hd, he => by
    have hs := walk_cons_ok he
    obtain ⟨x, k, h1, h2, h3, h4⟩ := step_name_inv hs (hd s (by simp))
    have hd' : Dotless ps := fun y hy => hd y (List.mem_cons_of_mem _ hy)
    rw [walk_cons hs, h4] at he ⊢
    by_cases c : j = da ∧ s = na
    · obtain ⟨rfl, rfl⟩ := c
      rw [hda] at h1
      cases h1
      rw [hka] at h3
      cases h3
      exact .inr ⟨ps, hd', rfl⟩
    · obtain ⟨x1, g1, g2, g3⟩ := H j x h1
      have hst : stepP m1 j s = (k, 0) := by rw [step_name g1 (g2.trans h2) (hd s (by simp)), g3 s k c h3]
      rw [walk_cons (by rw [hst]), hst]
      exact walk_avoid H hda hka ps k hd' he
/-- a walk goes on as before where names are more -/
theorem walk_more (H : ∀ j x, lookK m.nodes j = some x → ∃ x1, lookK m1.nodes j = some x1 ∧ x1.kind = x.kind ∧ x1.par = x.par ∧ ∀ s k, lookN x.names s = some k → lookN x1.names s = some k) : ∀ (ps : List Bs) (j : Nat), (walkFrom m j ps).2 = 0 → walkFrom m1 j ps = walkFrom m j ps
  | [], j, _ => rfl
  | s :: ps, j, he => by
    have hs := walk_cons_ok he
    have hst : stepP m1 j s = stepP m j s := by
      by_cases c : (m.get j).kind = 2
      · obtain ⟨x, hx, h2⟩ := get_kind2 c
        obtain ⟨x1, g1, g2, g3, g4⟩ := H j x hx
        unfold stepP at hs ⊢
        rw [Md.get_look hx] at hs ⊢
        rw [Md.get_look g1, g2, g3]
        have hk2 : ¬ (x.kind ≠ 2) := by simpa using h2
        rw [if_neg hk2] at hs ⊢
        rw [if_neg hk2]
        by_cases c1 : s = [46]
        · rw [if_pos c1, if_pos c1]
        rw [if_neg c1] at hs ⊢
        rw [if_neg c1]
        by_cases c2 : s = [46, 46]
        · rw [if_pos c2, if_pos c2]
        rw [if_neg c2] at hs ⊢
        rw [if_neg c2]
        cases hk : lookN x.names s with
        | none => rw [hk] at hs; simp at hs
        | some k => rw [g4 s k hk]
      · unfold stepP at hs
        rw [if_pos c] at hs
        simp at hs
    rw [walk_cons hs] at he ⊢
    rw [walk_cons (by rw [hst]; exact hs), hst]
    exact walk_more H ps _ he

/-- where a place lies that is found -/
theorem locate_inv (he : (locateP m p).2 = 0) : ∃ ini x dir dd, splitP p = (ini ++ [x], 0) ∧ (x ≠ [46] ∧ x ≠ [46, 46]) ∧ walkFrom m 0 ini = (dir, 0) ∧ lookK m.nodes dir = some dd ∧ dd.kind = 2 ∧ locateP m p = (⟨dir, nodeAt (lookN dd.names x), x⟩, 0) := by
  unfold locateP at he ⊢
  by_cases h1 : (splitP p).2 ≠ 0
  · rw [if_pos h1] at he; exact absurd he h1
  rw [if_neg h1] at he ⊢
  have hsp : splitP p = ((splitP p).1, 0) := Prod.ext rfl (by simpa using h1)
  generalize (splitP p).1 = xs at *
  unfold locParts at he ⊢
  cases hx : xs.getLast? with
  | none => rw [hx] at he; simp at he
  | some x =>
    rw [hx] at he
    simp only [] at he ⊢
    by_cases c1 : x = [46] ∨ x = [46, 46]
    · rw [if_pos c1] at he; simp at he
    rw [if_neg c1] at he ⊢
    by_cases c2 : (walkFrom m 0 xs.dropLast).2 ≠ 0
    · rw [if_pos c2] at he; exact absurd he c2
    rw [if_neg c2] at he ⊢
    by_cases c3 : (m.get (walkFrom m 0 xs.dropLast).1).kind ≠ 2
    · rw [if_pos c3] at he; simp at he
    rw [if_neg c3] at he ⊢
    obtain ⟨dd, hd, h2⟩ := get_kind2 (show (m.get (walkFrom m 0 xs.dropLast).1).kind = 2 by simpa using c3)
    obtain ⟨ys, rfl⟩ := List.getLast?_eq_some_iff.1 hx
    rw [List.dropLast_concat] at *
    exact ⟨ys, x, _, dd, hsp, ⟨fun q => c1 (.inl q), fun q => c1 (.inr q)⟩, Prod.ext rfl (by simpa using c2), hd, h2, by rw [Md.get_look hd]⟩
theorem locate_at {ini : List Bs} {x : Bs} {dir : Nat} (h1 : splitP p = (ini ++ [x], 0)) (hx : x ≠ [46] ∧ x ≠ [46, 46]) (hw : walkFrom m 0 ini = (dir, 0)) (hd : lookK m.nodes dir = some dd) (h2 : dd.kind = 2) : locateP m p = (⟨dir, nodeAt (lookN dd.names x), x⟩, 0) := by
  unfold locateP
  rw [h1, if_neg (by simp)]
  unfold locParts
  simp only [List.getLast?_append, List.getLast?_singleton, Option.some_or, List.dropLast_concat, hw]
  rw [if_neg (by rintro (q | q); exact hx.1 q; exact hx.2 q), if_neg (by simp), Md.get_look hd, if_neg (by simpa using h2)]
theorem find_at {ini : List Bs} {x : Bs} {dir : Nat} (h1 : splitP p = (ini ++ [x], 0)) (hx : x ≠ [46] ∧ x ≠ [46, 46]) (hw : walkFrom m 0 ini = (dir, 0)) (hd : lookK m.nodes dir = some dd) (h2 : dd.kind = 2) : findP m p = match lookN dd.names x with | some k => (k, 0) | none => (0, 210) := by
  unfold findP
  rw [h1, if_neg (by simp)]
  simp only []
  rw [walkFrom_app (by rw [hw]), hw]
  simp only []
  rw [walkFrom, step_name hd h2 hx]
  cases lookN dd.names x with
  | none => rfl
  | some k => rfl

/-- nodes that are looked up alike are alike -/
theorem look_ext : ∀ {l l' : List (Nat × Nd)}, Rise l → l'.map (·.1) = l.map (·.1) → (∀ j, lookK l' j = lookK l j) → l' = l
  | [], l', _, h, _ => by simpa using h
  | p :: l, [], _, h, _ => by simp at h
  | p :: l, q :: l', hr, h, hl => by
    rw [List.map_cons, List.map_cons] at h
    injection h with h1 h2
    have e := hl p.1
    rw [lookK_cons, lookK_cons, if_pos h1, if_pos rfl] at e
    have hq : q = p := Prod.ext h1 (by simpa using e)
    subst hq
    rw [look_ext (l := l) (l' := l') hr.tail h2 (fun j => ?_)]
    by_cases c : q.1 = j
    · have e1 : lookK l j = none := by
        cases hk : lookK l j with
        | none => rfl
        | some d =>
          have := hr.head _ (lookK_mem hk)
          simp only [] at this
          omega
      have e2 : lookK l' j = none := by
        cases hk : lookK l' j with
        | none => rfl
        | some d =>
          have hm := lookK_mem hk
          have : j ∈ l'.map (·.1) := List.mem_map.2 ⟨_, hm, rfl⟩
          rw [h2] at this
          obtain ⟨r, hr1, hr2⟩ := List.mem_map.1 this
          have := hr.head r hr1
          omega
      rw [e1, e2]
    · have := hl j
      rw [lookK_cons, lookK_cons, if_neg c, if_neg c] at this
      exact this
theorem upd_id {m m' : Md} {g : Nat → Nd → Nd} (hr : Rise m.nodes) (hu : Upd m m' g) (hg : ∀ j x, lookK m.nodes j = some x → g j x = x) : m' = m := by
  have hn : m'.nodes = m.nodes := by
    refine look_ext hr hu.ids fun j => ?_
    rw [hu.look]
    cases hj : lookK m.nodes j with
    | none => rfl
    | some x => rw [Option.map_some, hg j x hj]
  have h1 := hu.next
  have h2 := hu.limit
  have h3 := hu.tab
  cases m
  cases m'
  simp only at *
  rw [hn, h1, h2, h3]

/-! ### linked, and unlinked -/
theorem back_link (h : Inv N Nul m) (hN : N ≤ 900000) (c c' : Cl) (hc : c'.p = c.o) (he : (lnkP m c).1.e = 0) : (unlinkP (lnkP m c).2 c').1.e = 0 ∧ (unlinkP (lnkP m c).2 c').2 = m := by
  have hG := h.good hN
  unfold lnkP at he ⊢
  simp only [] at he ⊢
  by_cases c1 : (findP m (bts c.p)).2 ≠ 0
  · rw [if_pos c1] at he; exact absurd he c1
  rw [if_neg c1] at he ⊢
  obtain ⟨dk, hk⟩ := findP_there hG (show (findP m (bts c.p)).2 = 0 by simpa using c1)
  generalize (findP m (bts c.p)).1 = k at *
  rw [Md.get_look hk] at he ⊢
  by_cases c2 : dk.kind = 2
  · rw [if_pos c2] at he; simp [failA] at he
  rw [if_neg c2] at he ⊢
  by_cases c3 : (locateP m (bts c.o)).2 ≠ 0
  · rw [if_pos c3] at he; exact absurd he c3
  rw [if_neg c3] at he ⊢
  by_cases c4 : 0 ≤ (locateP m (bts c.o)).1.node
  · rw [if_pos c4] at he; simp [failA] at he
  rw [if_neg c4] at he ⊢
  by_cases c5 : 100 ≤ dk.links
  · rw [if_pos c5] at he; simp [failA] at he
  rw [if_neg c5]
  obtain ⟨ini, s, dir, dd, l1, l2, l3, l4, l5, l6⟩ := locate_inv (show (locateP m (bts c.o)).2 = 0 by simpa using c3)
  rw [l6] at c4 ⊢
  simp only [] at c4 ⊢
  have hfree : lookN dd.names s = none := nodeAt_neg (by omega)
  have hk1 : dk.kind = 1 := by
    rcases h.kinds hk with q | q
    · exact q
    · exact absurd q c2
  obtain ⟨m1, hm1⟩ : ∃ m1, m1 = linksP (linkP m dir s k) k 1 := ⟨_, rfl⟩
  rw [← hm1]
  have hu : Upd m m1 fun j d => { d with links := d.links + (if j = k then 1 else 0), names := if j = dir then putN d.names s k else d.names } := by
    have hu := (Upd.set m dir fun n => { n with names := putN n.names s k }).trans (Upd.set (linkP m dir s k) k fun n => { n with links := n.links + 1 })
    rw [hm1]
    refine ⟨fun j => ?_, hu.ids, hu.next, hu.limit, hu.tab⟩
    refine (hu.look j).trans ?_
    congr 1
    funext x
    try simp only []
    by_cases q1 : j = dir <;> by_cases q2 : j = k <;> simp [q1, q2] <;> (try simp_all)
  -- the walk to the place is the same
  have hw : walkFrom m1 0 ini = (dir, 0) := by
    rw [← l3]
    refine walk_more (fun j x hj => ?_) ini 0 (by rw [l3])
    refine ⟨{ x with links := x.links + (if j = k then 1 else 0), names := if j = dir then putN x.names s k else x.names }, by rw [hu.look, hj]; rfl, rfl, rfl, fun t i ht => ?_⟩
    show lookN (if j = dir then putN x.names s k else x.names) t = some i
    by_cases q : j = dir
    · subst q
      rw [l4] at hj
      cases hj
      rw [if_pos rfl, putN_look (h.shape _ _ l4).2.1 hfree, if_neg]
      · exact ht
      · rintro rfl
        rw [hfree] at ht
        cases ht
    · rw [if_neg q]; exact ht
  have g4 : lookK m1.nodes dir = some { dd with links := dd.links + (if dir = k then 1 else 0), names := putN dd.names s k } := by rw [hu.look, l4]; simp
  have hl : locateP m1 (bts c.o) = (⟨dir, (k : Int), s⟩, 0) := by
    rw [locate_at l1 l2 hw g4 l5]
    have : lookN (putN dd.names s k) s = some k := by rw [putN_look (h.shape _ _ l4).2.1 hfree, if_pos rfl]
    simp only [this]
    rfl
  have hth : thereP m1 (bts c'.p) = (⟨dir, (k : Int), s⟩, 0) := by
    unfold thereP
    rw [hc, hl, if_neg]
    rintro ⟨_, q⟩
    simp only [] at q
    omega
  have gk : ∃ dk1, lookK m1.nodes k = some dk1 ∧ dk1.kind = 1 ∧ dk1.links = dk.links + 1 := by
    refine ⟨{ dk with links := dk.links + (if k = k then 1 else 0), names := if k = dir then putN dk.names s k else dk.names }, by rw [hu.look, hk]; rfl, hk1, ?_⟩
    show dk.links + (if k = k then 1 else 0) = _
    rw [if_pos rfl]
  obtain ⟨dk1, gk1, gk2, gk3⟩ := gk
  unfold unlinkP
  simp only [hth]
  rw [if_neg (by simp), Int.toNat_natCast, Md.get_look gk1, if_neg (by omega)]
  refine ⟨rfl, ?_⟩
  show dropP m1 ⟨dir, (k : Int), s⟩ = m
  unfold dropP
  simp only [Int.toNat_natCast, Md.get_look gk1]
  rw [if_neg (by omega)]
  have hu2 := (hu.trans (Upd.set m1 dir fun n => { n with names := delN n.names s })).trans (Upd.set (unnameP m1 dir s) k fun n => { n with links := n.links + (-1) })
  have hid : linksP (unnameP m1 dir s) k (-1) = m := by
    refine upd_id h.rise hu2 fun j x hj => ?_
    simp only []
    have hdl : j = dir → delN (putN x.names s k) s = x.names := fun q => by
      subst q
      rw [l4] at hj
      cases hj
      exact put_del (h.shape _ _ l4).2.1 hfree
    by_cases q1 : j = dir <;> by_cases q2 : j = k
    · simp only [if_pos q1, if_pos q2, hdl q1]
      have : x.links + 1 + -1 = x.links := by omega
      rw [this]
    · simp only [if_pos q1, if_neg q2, hdl q1]
      simp
    · simp only [if_neg q1, if_pos q2]
      have : x.links + 1 + -1 = x.links := by omega
      rw [this]
    · simp only [if_neg q1, if_neg q2]
      simp
  rw [hid]
  unfold goneP
  rw [if_neg]
  rintro ⟨q1, q2⟩
  rw [Md.get_look hk] at q1
  have hlk := h.links k dk hk
  rw [if_neg c2] at hlk
  have hz := h.file0 hk hk1
  rcases h.live k dk hk hz with q | q | q
  · exact q
  · omega
  · rw [q] at q2; cases q2
end

end Go.Proofs.YtppdihpobokfnaaGreatDoor

set_option linter.unusedVariables false
set_option linter.unusedSimpArgs false
namespace Go.Proofs.YtppdihpobokfnaaGreatDoor
open Go Go.RowKit

/-- never more links than may be -/
def L100 (m : Md) : Prop := ∀ k d, lookK m.nodes k = some d → d.links ≤ 100
/-- two models are told alike -/
def Alike (m m' : Md) : Prop := m'.nodes.length = m.nodes.length ∧ ∀ k, (m'.get k).kind = (m.get k).kind ∧ (m'.get k).links = (m.get k).links ∧ (m'.get k).pin = (m.get k).pin ∧ (m'.get k).data = (m.get k).data ∧ (m'.get k).names = (m.get k).names
theorem Alike.seen {m m' : Md} (h : Alike m m') : ∀ (f k : Nat) (p : Bs), seenP m' f k p = seenP m f k p
  | 0, _, _ => rfl
  | f + 1, k, p => by
    rw [seenP, seenP, (h.2 k).2.2.2.2]
    congr 1
    rw [List.flatMap_def, List.flatMap_def]
    congr 1
    exact List.map_congr_left fun y _ => h.seen f _ _
theorem Alike.view {m m' : Md} (h : Alike m m') : viewP m' = viewP m := by
  have ha : allP m' = allP m := by unfold allP; rw [h.1, h.seen]
  unfold viewP
  rw [ha]
  simp only []
  refine List.map_congr_left fun x _ => ?_
  obtain ⟨h1, h2, h3, h4, h5⟩ := h.2 x.2
  unfold toldP
  rw [h1, h2, h3, h4, h5]

/-- what a name's moving makes of a node -/
def moveG (a b : Pl) (k : Nat) (dir : Bool) (j : Nat) (x : Nd) : Nd := { x with names := (if j = b.dir then putN (if j = a.dir then delN x.names a.name else x.names) b.name k else if j = a.dir then delN x.names a.name else x.names), links := x.links + ((if dir = true ∧ j = a.dir then -1 else 0) + (if dir = true ∧ j = b.dir then 1 else 0)), par := if j = k then b.dir else x.par }

section
variable {N : Nat} {X : Nat → Prop} {m m1 : Md} {j k t : Nat} {d x dd : Nd} {s : Bs} {ps qs : List Bs} {p : Bs}
theorem moveQ_look {a b : Pl} (hk : lookK m.nodes k = some d) : Upd m (moveQ m a b k) (moveG a b k (d.kind == 2)) := by
  rw [moveQ_upd hk]
  have u1 := Upd.set m a.dir fun n => { n with names := delN n.names a.name }
  have u2 := Upd.set (unnameP m a.dir a.name) b.dir fun n => { n with names := putN n.names b.name k }
  have u3 := Upd.set (linkP (unnameP m a.dir a.name) b.dir b.name k) a.dir fun n => { n with links := n.links + (if d.kind = 2 then -1 else 0) }
  have u4 := Upd.set (linksP (linkP (unnameP m a.dir a.name) b.dir b.name k) a.dir (if d.kind = 2 then -1 else 0)) b.dir fun n => { n with links := n.links + (if d.kind = 2 then 1 else 0) }
  have u5 := Upd.set (linksP (linksP (linkP (unnameP m a.dir a.name) b.dir b.name k) a.dir (if d.kind = 2 then -1 else 0)) b.dir (if d.kind = 2 then 1 else 0)) k fun n => { n with par := b.dir }
  have hu := (((u1.trans u2).trans u3).trans u4).trans u5
  refine ⟨fun j => ?_, hu.ids, hu.next, hu.limit, hu.tab⟩
  refine (hu.look j).trans ?_
  congr 1
  funext x
  unfold moveG
  by_cases q1 : j = a.dir <;> by_cases q2 : j = b.dir <;> by_cases q3 : j = k <;> by_cases q4 : d.kind = 2 <;> simp [q1, q2, q3, q4] <;> (try simp_all) <;> (try omega)

theorem below_up (h : Inv N X m) {inn : Nat} : ∀ (f k : Nat), Dir m k → belowP m inn f k = true → Up m k inn
  | 0, k, _, hb => by
    have : k = inn := by simpa [belowP] using hb
    subst this
    exact .refl k
  | f + 1, k, ⟨d, hd, h2⟩, hb => by
    rw [belowP] at hb
    by_cases c : k ≠ inn ∧ k ≠ 0
    · rw [if_pos c, Md.get_look hd] at hb
      exact .step hd h2 c.2 (below_up h f d.par (h.pardir hd h2) hb)
    · rw [if_neg c] at hb
      have : k = inn := by simpa using hb
      subst this
      exact .refl k
theorem up_below (hG : Good m) {inn : Nat} (hu : Up m k inn) : belowP m inn m.nodes.length k = true := by
  induction hu with
  | refl k => rw [below_stop _ (by simp)]; simp
  | @step d inn x h1 h2 h3 hu ih =>
    by_cases c : d = inn
    · subst c; rw [below_stop _ (by simp)]; simp
    · rw [below_step hG h1 h2 c h3]; exact ih
/-- what a walk by names leads to is not ahead of where it began -/
theorem up_file (h : Inv N X m) (hu : Up m t k) (ht : Dir m t) (hk : lookK m.nodes k = some d) : d.kind = 2 := by
  obtain ⟨x, h1, h2⟩ := Up.dir h hu ht
  rw [hk] at h1
  cases h1
  exact h2

theorem back_rename (h : Inv N Nul m) (hN : N ≤ 900000) (hL : L100 m) (c c' : Cl) (hp : c'.p = c.o) (ho : c'.o = c.p) (ha : plainP (bts c.p) = true) (hb : plainP (bts c.o) = true) (hst : (findP m (bts c.o)).2 = 210) (he : (renameP m c).1.e = 0) :
    (findP (renameP m c).2 (bts c.p)).2 = 210 ∧ (renameP (renameP m c).2 c').1.e = 0 ∧ Alike m (renameP (renameP m c).2 c').2 := by
  have hG := h.good hN
  have hI1 : Inv N Nul (renameP m c).2 := h.renameP hG c
  unfold renameP at he hI1 ⊢
  simp only [] at he hI1 ⊢
  by_cases c1 : (thereP m (bts c.p)).2 ≠ 0
  · rw [if_pos c1] at he; exact absurd he c1
  rw [if_neg c1] at he hI1 ⊢
  by_cases c2 : (locateP m (bts c.o)).2 ≠ 0
  · rw [if_pos c2] at he; exact absurd he c2
  rw [if_neg c2] at he hI1 ⊢
  obtain ⟨e1, e2⟩ := thereP_loc (m := m) (p := bts c.p) (by simpa using c1)
  obtain ⟨ia, na, da, dda, a1, a2, a3, a4, a5, a6⟩ := locate_inv e2
  obtain ⟨ib, nb, db, ddb, b1, b2, b3, b4, b5, b6⟩ := locate_inv (show (locateP m (bts c.o)).2 = 0 by simpa using c2)
  have hdla : Dotless ia := fun y hy => by
    have := plain_parts ha (by rw [a1])
    rw [a1] at this
    exact this y (by simp [hy])
  have hdlb : Dotless ib := fun y hy => by
    have := plain_parts hb (by rw [b1])
    rw [b1] at this
    exact this y (by simp [hy])
  have hnb : lookN ddb.names nb = none := by
    rw [find_at b1 b2 b3 b4 b5] at hst
    cases hk : lookN ddb.names nb with
    | none => rfl
    | some k => rw [hk] at hst; simp at hst
  have hna : ∃ k, lookN dda.names na = some k := by
    cases hk : lookN dda.names na with
    | some k => exact ⟨k, rfl⟩
    | none =>
      rw [hk] at a6
      refine absurd ?_ c1
      unfold thereP
      rw [a6, if_pos ⟨rfl, by simp [nodeAt]⟩]
      simp
  obtain ⟨k, hna⟩ := hna
  have a6 : locateP m (bts c.p) = (⟨da, (k : Int), na⟩, 0) := by rw [a6, hna]; rfl
  have b6 : locateP m (bts c.o) = (⟨db, -1, nb⟩, 0) := by rw [b6, hnb]; rfl
  have c3 : ¬ ((thereP m (bts c.p)).1.node = (locateP m (bts c.o)).1.node) := by
    rw [e1, a6, b6]
    show ¬ ((k : Int) = -1)
    omega
  rw [if_neg c3] at he hI1 ⊢
  by_cases c4 : mayP m (thereP m (bts c.p)).1 (locateP m (bts c.o)).1 ≠ 0
  · rw [if_pos c4] at he; exact absurd he c4
  rw [if_neg c4] at hI1 ⊢
  rw [e1, a6, b6] at c4 hI1 ⊢
  simp only [] at c4 hI1 ⊢
  rw [moveP_eq] at hI1 ⊢
  rw [if_neg (by simp)] at hI1 ⊢
  simp only [Int.toNat_natCast] at hI1 ⊢
  have hm := h.mem_look a4 hna
  obtain ⟨hk0, d, hk, hpar⟩ := h.there _ hm
  simp only [] at hk0 hk hpar
  obtain ⟨dep, hdep⟩ := h.tree
  have hu := moveQ_look (a := ⟨da, (k : Int), na⟩) (b := ⟨db, -1, nb⟩) hk
  generalize moveQ m ⟨da, (k : Int), na⟩ ⟨db, -1, nb⟩ k = m1 at *
  have hsa := (h.shape _ _ a4).2.1
  have hsb := (h.shape _ _ b4).2.1
  -- what may be
  have hmay : (d.kind = 2 → ¬ Up m db k) ∧ (d.kind = 2 → da ≠ db → ddb.links < 100) := by
    have c4' : mayP m ⟨da, (k : Int), na⟩ ⟨db, -1, nb⟩ = 0 := by simpa using c4
    unfold mayP at c4'
    simp only [Int.toNat_natCast, Md.get_look hk, Md.get_look b4] at c4'
    refine ⟨fun q hup => ?_, fun q hne => ?_⟩
    · rw [if_pos ⟨by simpa using q, up_below hG hup⟩] at c4'
      omega
    · split at c4'
      · omega
      · rw [if_pos (by omega)] at c4'
        by_cases q9 : 100 ≤ ddb.links
        · rw [if_pos ⟨by simpa using q, hne, q9⟩] at c4'
          omega
        · omega
  have hupa : d.kind = 2 → ¬ Up m da k := fun q hup => by
    have := Up.not_below hdep hk q hk0
    rw [hpar q] at this
    exact this hup
  -- the nodes behind the move
  have H : ∀ j x, lookK m.nodes j = some x → ∃ x1, lookK m1.nodes j = some x1 ∧ x1.kind = x.kind ∧ ∀ s i, ¬ (j = da ∧ s = na) → lookN x.names s = some i → lookN x1.names s = some i := fun j x hj => by
    refine ⟨moveG ⟨da, (k : Int), na⟩ ⟨db, -1, nb⟩ k (d.kind == 2) j x, by rw [hu.look, hj]; rfl, rfl, fun s i hne hs => ?_⟩
    show lookN (if j = db then putN (if j = da then delN x.names na else x.names) nb k else if j = da then delN x.names na else x.names) s = some i
    have hs1 : lookN (if j = da then delN x.names na else x.names) s = some i := by
      by_cases q : j = da
      · rw [if_pos q, delN_look, if_neg (fun e => hne ⟨q, e⟩)]; exact hs
      · rw [if_neg q]; exact hs
    by_cases q : j = db
    · subst q
      rw [b4] at hj
      cases hj
      rw [if_pos rfl]
      have hn1 : lookN (if j = da then delN ddb.names na else ddb.names) nb = none := by
        split
        · rw [delN_look]; split
          · rfl
          · exact hnb
        · exact hnb
      have hs2 : Sorted (if j = da then delN ddb.names na else ddb.names) := by
        split
        · exact delN_sorted hsb
        · exact hsb
      rw [putN_look hs2 hn1, if_neg]
      · exact hs1
      · rintro rfl
        rw [hnb] at hs
        cases hs
    · rw [if_neg q]; exact hs1
  have hda2 : Dir m da := ⟨dda, a4, a5⟩
  have hdb2 : Dir m db := ⟨ddb, b4, b5⟩
  have noway : ∀ t, Dir m t → ∀ qs, Dotless qs → walkFrom m k qs = (t, 0) → d.kind = 2 ∧ Up m t k := fun t ht qs hq hw => by
    have hup : Up m t k := by
      have := walk_up h qs k hq (by rw [hw]) (by rw [hw]; exact ht)
      rwa [hw] at this
    exact ⟨up_file h hup ht hk, hup⟩
  have wa : walkFrom m1 0 ia = (da, 0) := by
    rcases walk_avoid H a4 hna ia 0 hdla (by rw [a3]) with q | ⟨qs, q1, q2⟩
    · rw [q, a3]
    · rw [a3] at q2
      obtain ⟨r1, r2⟩ := noway da hda2 qs q1 q2
      exact absurd r2 (hupa r1)
  have wb : walkFrom m1 0 ib = (db, 0) := by
    rcases walk_avoid H a4 hna ib 0 hdlb (by rw [b3]) with q | ⟨qs, q1, q2⟩
    · rw [q, b3]
    · rw [b3] at q2
      obtain ⟨r1, r2⟩ := noway db hdb2 qs q1 q2
      exact absurd r2 (hmay.1 r1)
  obtain ⟨ga, hga⟩ : ∃ ga, ga = moveG ⟨da, (k : Int), na⟩ ⟨db, -1, nb⟩ k (d.kind == 2) da dda := ⟨_, rfl⟩
  obtain ⟨gb, hgb⟩ : ∃ gb, gb = moveG ⟨da, (k : Int), na⟩ ⟨db, -1, nb⟩ k (d.kind == 2) db ddb := ⟨_, rfl⟩
  obtain ⟨gk, hgk⟩ : ∃ gk, gk = moveG ⟨da, (k : Int), na⟩ ⟨db, -1, nb⟩ k (d.kind == 2) k d := ⟨_, rfl⟩
  have la : lookK m1.nodes da = some ga := by rw [hu.look, a4, hga]; rfl
  have lb : lookK m1.nodes db = some gb := by rw [hu.look, b4, hgb]; rfl
  have lk : lookK m1.nodes k = some gk := by rw [hu.look, hk, hgk]; rfl
  have ka : ga.kind = 2 := by rw [hga]; exact a5
  have kb : gb.kind = 2 := by rw [hgb]; exact b5
  have kk : gk.kind = d.kind := by rw [hgk]; rfl
  have nA : lookN ga.names na = none := by
    rw [hga]
    show lookN (if da = db then putN (if da = da then delN dda.names na else dda.names) nb k else if da = da then delN dda.names na else dda.names) na = none
    rw [if_pos rfl]
    have e0 : lookN (delN dda.names na) na = none := by rw [delN_look, if_pos rfl]
    split
    · rename_i q
      subst q
      rw [a4] at b4
      cases b4
      have hne : na ≠ nb := fun e => by rw [e, hnb] at hna; cases hna
      rw [putN_look (delN_sorted hsa) (by rw [delN_look, if_neg (fun e => hne e.symm)]; exact hnb), if_neg hne]
      exact e0
    · exact e0
  have nB : lookN gb.names nb = some k := by
    rw [hgb]
    show lookN (if db = db then putN (if db = da then delN ddb.names na else ddb.names) nb k else if db = da then delN ddb.names na else ddb.names) nb = some k
    rw [if_pos rfl]
    have hn1 : lookN (if db = da then delN ddb.names na else ddb.names) nb = none := by
      split
      · rw [delN_look]; split
        · rfl
        · exact hnb
      · exact hnb
    have hs2 : Sorted (if db = da then delN ddb.names na else ddb.names) := by
      split
      · exact delN_sorted hsb
      · exact hsb
    rw [putN_look hs2 hn1, if_pos rfl]
  refine ⟨?_, ?_⟩
  · rw [find_at a1 a2 wa la ka, nA]
  have t1 : locateP m1 (bts c.o) = (⟨db, (k : Int), nb⟩, 0) := by rw [locate_at b1 b2 wb lb kb, nB]; rfl
  have t2 : locateP m1 (bts c.p) = (⟨da, -1, na⟩, 0) := by rw [locate_at a1 a2 wa la ka, nA]; rfl
  have t3 : thereP m1 (bts c.o) = (⟨db, (k : Int), nb⟩, 0) := by
    unfold thereP
    rw [t1, if_neg]
    rintro ⟨_, q⟩
    simp only [] at q
    omega
  rw [hp, ho]
  simp only [t3, t2]
  rw [if_neg (by simp), if_neg (by simp), if_neg (by omega)]
  -- it may go back
  have hback : mayP m1 ⟨db, (k : Int), nb⟩ ⟨da, -1, na⟩ = 0 := by
    unfold mayP
    simp only [Int.toNat_natCast, Md.get_look lk, Md.get_look la, kk]
    rw [if_neg, if_pos (by omega), if_neg]
    · rintro ⟨q1, q2, q3⟩
      have hl := hL da dda a4
      rw [hga] at q3
      have : (moveG ⟨da, (k : Int), na⟩ ⟨db, -1, nb⟩ k (d.kind == 2) da dda).links = dda.links - 1 := by
        unfold moveG
        simp only []
        rw [if_pos ⟨q1, trivial⟩, if_neg (fun e => q2 e.2.symm)]
        omega
      omega
    · rintro ⟨q1, q2⟩
      have q1' : d.kind = 2 := by simpa using q1
      have hup := below_up hI1 _ _ ⟨ga, la, ka⟩ q2
      refine hupa q1' ?_
      have key : ∀ t, Up m1 t k → Up m t k := fun t hup => by
        generalize hkk : k = k' at hup
        induction hup with
        | refl => exact .refl _
        | @step t k' x r1 r2 r3 r4 ih =>
          subst hkk
          by_cases q : t = k
          · subst q; exact .refl t
          · rw [hu.look] at r1
            obtain ⟨y, y1, y2⟩ := Option.map_eq_some_iff.1 r1
            have hx : x.par = y.par := by rw [← y2]; show (if t = k then db else y.par) = y.par; rw [if_neg q]
            refine .step y1 (by rw [← r2, ← y2]; rfl) r3 ?_
            rw [← hx]
            exact ih rfl
      exact key da hup
  rw [if_neg (by rw [hback]; simp)]
  refine ⟨rfl, ?_⟩
  simp only []
  rw [moveP_eq, if_neg (by simp)]
  simp only [Int.toNat_natCast]
  have hu2 := moveQ_look (a := ⟨db, (k : Int), nb⟩) (b := ⟨da, -1, na⟩) lk
  rw [kk] at hu2
  generalize moveQ m1 ⟨db, (k : Int), nb⟩ ⟨da, -1, na⟩ k = m2 at *
  refine ⟨by rw [hu2.len, hu.len], fun j => ?_⟩
  cases hj : lookK m.nodes j with
  | none =>
    have e2 : lookK m2.nodes j = none := by rw [hu2.look, hu.look, hj]; rfl
    rw [Md.get, Md.get, hj, e2]
    exact ⟨rfl, rfl, rfl, rfl, rfl⟩
  | some x =>
    have e2 : lookK m2.nodes j = some (moveG ⟨db, (k : Int), nb⟩ ⟨da, -1, na⟩ k (d.kind == 2) j (moveG ⟨da, (k : Int), na⟩ ⟨db, -1, nb⟩ k (d.kind == 2) j x)) := by rw [hu2.look, hu.look, hj]; rfl
    rw [Md.get_look hj, Md.get_look e2]
    refine ⟨rfl, ?_, rfl, rfl, ?_⟩
    · unfold moveG
      simp only []
      by_cases q1 : j = da <;> by_cases q2 : j = db <;> by_cases q3 : (d.kind == 2) = true <;> simp only [q1, q2, q3, if_true, if_false, true_and, false_and, and_true, and_false, Bool.false_eq_true] <;> omega
    · unfold moveG
      simp only []
      by_cases q1 : j = da
      · subst q1
        rw [a4] at hj
        cases hj
        by_cases q2 : j = db
        · subst q2
          rw [a4] at b4
          cases b4
          have hn1 : lookN (delN dda.names na) nb = none := by
            rw [delN_look]; split
            · rfl
            · exact hnb
          simp only [if_true]
          rw [put_del (delN_sorted hsa) hn1, del_put hsa hna]
        · simp only [if_true, if_neg q2]
          exact del_put hsa hna
      · by_cases q2 : j = db
        · subst q2
          rw [b4] at hj
          cases hj
          simp only [if_true, if_neg q1]
          exact put_del hsb hnb
        · simp only [if_neg q1, if_neg q2]
end

end Go.Proofs.YtppdihpobokfnaaGreatDoor

set_option linter.unusedVariables false
set_option linter.unusedSimpArgs false
namespace Go.Proofs.YtppdihpobokfnaaGreatDoor
open Go Go.RowKit

section
variable {N : Nat} {X : Nat → Prop} {m : Md} {j k : Nat} {d x dd : Nd} {s : Bs}
theorem L100.set (h : L100 m) {f : Nd → Nd} (hf : ∀ d, lookK m.nodes k = some d → d.links ≤ 100 → (f d).links ≤ 100) : L100 (m.set k f) := fun j x hj => by
  have h2 : lookK (setK m.nodes k f) j = some x := hj
  rw [lookK_setK] at h2
  clear hj
  split at h2
  · rename_i q
    subst q
    cases hy : lookK m.nodes j with
    | none => rw [hy] at h2; cases h2
    | some y =>
      rw [hy] at h2
      cases h2
      exact hf y hy (h _ y hy)
  · exact h j x h2
theorem L100.gone (h : L100 m) (k : Nat) : L100 (goneP m k) := by
  unfold goneP
  split
  · intro j x hj
    have hj : lookK (m.nodes.filter fun p => !(p.1 == k)) j = some x := hj
    rw [lookK_filter] at hj
    split at hj
    · cases hj
    · exact h j x hj
  · exact h
theorem L100.tab (h : L100 m) (T : List Sl) : L100 { m with tab := T } := h
theorem L100.fresh (h : L100 m) (a : Pl) (kind : Int) : L100 (freshP m a kind).2 := by
  unfold freshP
  split
  · exact h
  · refine L100.set ?_ (fun d _ q => q)
    intro j x hj
    have hj : lookK (m.nodes ++ [(m.next, freshN kind a.dir)]) j = some x := hj
    rw [lookK_append] at hj
    cases hl : lookK m.nodes j with
    | some y => rw [hl] at hj; cases hj; exact h j _ hl
    | none =>
      rw [hl] at hj
      simp only [] at hj
      split at hj
      · cases hj
        unfold freshN
        simp only []
        split <;> omega
      · cases hj
theorem L100.unname (h : L100 m) (k : Nat) (s : Bs) : L100 (unnameP m k s) := h.set (fun _ _ q => q)
theorem L100.link (h : L100 m) (k : Nat) (s : Bs) (j : Nat) : L100 (linkP m k s j) := h.set (fun _ _ q => q)
theorem L100.less (h : L100 m) (k : Nat) : L100 (linksP m k (-1)) := h.set (fun d _ q => by show d.links + -1 ≤ 100; omega)
theorem L100.up (h : L100 m) (hk : ∀ d, lookK m.nodes k = some d → d.links < 100) : L100 (linksP m k 1) := h.set (fun d hd _ => by
  have := hk d hd
  show d.links + 1 ≤ 100
  omega)
theorem L100.drop (h : L100 m) (a : Pl) : L100 (dropP m a) := by
  unfold dropP
  simp only
  split
  · exact L100.gone (L100.less (L100.set (f := fun n => { n with links := 0 }) ((h.unname a.dir a.name).less a.node.toNat) (fun _ _ _ => by show (0 : Int) ≤ 100; omega)) a.dir) a.node.toNat
  · exact L100.gone ((h.unname _ _).less _) _
theorem L100.move (h : L100 m) (hI : Inv N X m) {a b : Pl} {da db : Nd} (ha : lookK m.nodes a.dir = some da) (hak : a.node = (k : Int)) (hk : lookK m.nodes k = some d) (hb : lookK m.nodes b.dir = some db) (hbn : b.node = nodeAt (lookN db.names b.name)) (hmay : mayP m a b = 0) : L100 (moveP m a b) := by
  rw [moveP_eq, hak, Int.toNat_natCast]
  have h0 : L100 (if 0 ≤ b.node then dropP m b else m) := by
    split
    · exact h.drop b
    · exact h
  -- links at the place
  have hup : d.kind = 2 → a.dir ≠ b.dir → ∀ y, lookK (if 0 ≤ b.node then dropP m b else m).nodes b.dir = some y → y.links < 100 := by
    intro q hne y hy
    unfold mayP at hmay
    simp only [hak, Int.toNat_natCast, Md.get_look hk, Md.get_look hb] at hmay
    by_cases c1 : ((d.kind == 2) = true ∧ belowP m k m.nodes.length b.dir = true)
    · rw [if_pos c1] at hmay; omega
    rw [if_neg c1] at hmay
    by_cases c2 : b.node < 0
    · rw [if_pos c2] at hmay
      rw [if_neg (by omega), hb] at hy
      cases hy
      by_cases c3 : 100 ≤ db.links
      · rw [if_pos ⟨by simpa using q, hne, c3⟩] at hmay; omega
      · omega
    · rw [if_neg c2] at hmay
      rw [if_pos (by omega)] at hy
      obtain ⟨kb, e1, e2⟩ := nodeAt_some (o := lookN db.names b.name) (by rw [← hbn]; omega)
      rw [e2] at hbn
      obtain ⟨hz, x, hx, hpx⟩ := hI.there _ (hI.mem_look hb e1)
      simp only [] at hz hx hpx
      simp only [hbn, Int.toNat_natCast, Md.get_look hx] at hmay
      have hx2 : x.kind = 2 := by
        by_cases q2 : x.kind = 2
        · exact q2
        · rw [if_pos ⟨by simpa using q, q2⟩] at hmay; omega
      obtain ⟨dep, hdep⟩ := hI.tree
      have hne2 : kb ≠ b.dir := fun e => by
        have h1 := hdep kb x hx hx2 hz
        rw [hpx hx2, e] at h1
        omega
      rw [drop_look hbn hne2 (fun e => hne2 e.symm), hb] at hy
      simp only [Option.map_some, Option.some.injEq] at hy
      rw [← hy]
      show db.links + (if (m.get kb).kind = 2 ∧ True then -1 else 0) < 100
      rw [if_pos ⟨by rw [Md.get_look hx]; exact hx2, trivial⟩]
      have := h _ _ hb
      omega
  have hkd : ∀ y, lookK (if 0 ≤ b.node then dropP m b else m).nodes k = some y → y.kind = d.kind := by
    intro y hy
    split at hy
    · obtain ⟨z, z1, z2, _⟩ := drop_kind hy
      rw [hk] at z1
      cases z1
      exact z2.symm
    · rw [hk] at hy
      cases hy
      rfl
  generalize (if 0 ≤ b.node then dropP m b else m) = m0 at *
  have h1 := (h0.unname a.dir a.name).link b.dir b.name k
  unfold moveQ
  simp only
  split
  · rename_i q
    refine L100.set ?_ (fun _ _ q => q)
    refine L100.up (h1.less a.dir) fun y hy => ?_
    obtain ⟨z, z1, z2⟩ := get_kind2 q
    have u1 := (Upd.set m0 a.dir fun n => { n with names := delN n.names a.name }).trans (Upd.set (unnameP m0 a.dir a.name) b.dir fun n => { n with names := putN n.names b.name k })
    have hdk : d.kind = 2 := by
      obtain ⟨y, y1, y2⟩ := u1.inv z1
      rw [← hkd y y1]
      rw [y2] at z2
      by_cases q1 : k = a.dir <;> by_cases q2 : k = b.dir <;> simp [q1, q2] at z2 <;> (try split at z2) <;> exact z2
    have u2 := u1.trans (Upd.set (linkP (unnameP m0 a.dir a.name) b.dir b.name k) a.dir fun n => { n with links := n.links + (-1) })
    obtain ⟨w, w1, w2⟩ := u2.inv hy
    by_cases c : a.dir = b.dir
    · have := h0 _ _ w1
      rw [w2]
      simp only [if_pos c.symm]
      simp [c]
      omega
    · have := hup hdk c w w1
      rw [w2]
      have c' : ¬ (b.dir = a.dir) := fun e => c e.symm
      simp only [if_neg c']
      simp
      exact this
  · exact L100.set h1 (fun _ _ q => q)

theorem L100.doP (h : L100 m) (hI : Inv N X m) (hG : Good m) (c : Cl) : L100 (Go.Proofs.YtppdihpobokfnaaGreatDoor.doP m c).2 := by
  unfold Go.Proofs.YtppdihpobokfnaaGreatDoor.doP
  split
  · unfold openP
    have hop : ∀ (mm : Md) (k : Nat), L100 mm → L100 (openAt mm c k).2 := fun mm k hm => by
      unfold openAt
      split
      · exact hm
      · simp only
        split
        · exact L100.set (m := mm) (k := k) (f := fun n => { n with data := [] }) hm (fun _ _ q => q)
        · exact hm
    split
    · exact h
    split
    · exact h
    split
    · exact h
    split
    · simp only
      split
      · exact h
      split
      · exact h
      · exact hop _ _ (h.fresh _ _)
    split
    · exact h
    · exact hop _ _ h
  · unfold closeP
    simp only
    split
    · exact L100.gone (L100.tab h _) _
    · exact h
  · unfold readP
    split
    · exact h
    · split <;> exact h
  · unfold putP
    split
    · exact h
    · split
      · exact h
      split
      · exact h
      split
      · exact h
      · refine L100.tab (m := m.set _ _) ?_ _
        exact L100.set h (fun _ _ q => q)
  · unfold seekP
    split <;> exact h
  · unfold resizeP
    split
    · exact h
    · split
      · exact h
      split
      · exact h
      · exact L100.set h (fun _ _ q => q)
  · unfold mkdirP
    simp only
    split
    · exact h
    split
    · exact h
    split
    · exact h
    rename_i c1 _ c3
    split
    · exact h
    rename_i c4
    obtain ⟨dd, h1, _⟩ := locateP_ok hG (show (locateP m (bts c.p)).2 = 0 by simpa using c1)
    rw [Md.get_look h1] at c3
    refine (h.fresh _ _).up fun y hy => ?_
    rw [freshP_dir (by simpa using c4) h1] at hy
    cases hy
    show dd.links < 100
    omega
  · unfold rmdirP
    simp only
    split
    · exact h
    split
    · exact h
    split
    · exact h
    · exact h.drop _
  · unfold lnkP
    simp only
    split
    · exact h
    rename_i c1
    split
    · exact h
    split
    · exact h
    split
    · exact h
    split
    · exact h
    rename_i c5
    obtain ⟨y, hy⟩ := findP_there hG (show (findP m (bts c.p)).2 = 0 by simpa using c1)
    rw [Md.get_look hy] at c5
    refine (h.link _ _ _).up fun z hz => ?_
    have hu := Upd.set m (locateP m (bts c.o)).1.dir fun n => { n with names := putN n.names (locateP m (bts c.o)).1.name (findP m (bts c.p)).1 }
    obtain ⟨w, w1, w2⟩ := hu.inv hz
    rw [hy] at w1
    cases w1
    rw [w2]
    by_cases q : (findP m (bts c.p)).1 = (locateP m (bts c.o)).1.dir
    · simp [q]; simpa using c5
    · simp [q]; simpa using c5
  · unfold unlinkP
    simp only
    split
    · exact h
    split
    · exact h
    · exact h.drop _
  · unfold renameP
    simp only
    split
    · exact h
    rename_i c1
    split
    · exact h
    rename_i c2
    split
    · exact h
    split
    · exact h
    rename_i c4
    obtain ⟨da, k, d, l1, l2, l3, l4, l5, l6⟩ := thereP_ok hG (show (thereP m (bts c.p)).2 = 0 by simpa using c1)
    obtain ⟨db, r1, r2, r3, r4⟩ := locateP_ok hG (show (locateP m (bts c.o)).2 = 0 by simpa using c2)
    exact h.move hI l1 l5 l6 r1 r4 (by simpa using c4)
  · exact h
  · exact h
  · exact h
  · unfold pinP
    simp only
    split
    · exact h
    · exact L100.set h (fun _ _ q => q)
  · exact h
  · exact h
  · exact h
  · exact h
  · exact h
  · exact h
theorem L100.new (n : Nat) : L100 (newP n) := fun k d hk => by
  have hk' : lookK [(0, (⟨2, 2, false, [], [], 0⟩ : Nd))] k = some d := hk
  rw [lookK_cons] at hk'
  split at hk'
  · cases hk'; show (2 : Int) ≤ 100; omega
  · cases hk'
end

/-- a model behind calls -/
theorem play_inv {n : Nat} (h1 : 1 ≤ n) (h2 : n ≤ 1000000) : ∀ l : List Cl, l.length ≤ 1000 → Inv l.length Nul (l.foldl (fun m c => (doP m c).2) (newP n)) ∧ L100 (l.foldl (fun m c => (doP m c).2) (newP n)) := by
  have key : ∀ l l' : List Cl, l.length + l'.length ≤ 1000 → Inv l.length Nul (l.foldl (fun m c => (doP m c).2) (newP n)) ∧ L100 (l.foldl (fun m c => (doP m c).2) (newP n)) → Inv (l.length + l'.length) Nul ((l ++ l').foldl (fun m c => (doP m c).2) (newP n)) ∧ L100 ((l ++ l').foldl (fun m c => (doP m c).2) (newP n)) := by
    intro l l'
    induction l' generalizing l with
    | nil => intro _ h; simpa using h
    | cons c l' ih =>
      intro hl h
      obtain ⟨i1, i2⟩ := h
      rw [List.length_cons] at hl ⊢
      have h2 := ih (l ++ [c]) (by rw [List.length_append, List.length_singleton]; omega) (by
        rw [List.foldl_append, List.length_append, List.length_singleton]
        exact ⟨i1.doP (by omega) c, i2.doP i1 (i1.good (by omega)) c⟩)
      rw [List.append_assoc, List.length_append, List.length_singleton] at h2
      have e : l.length + (l'.length + 1) = l.length + 1 + l'.length := by omega
      rw [e]
      exact h2
  intro l hl
  have := key [] l (by simpa using hl) ⟨Inv.new h1 h2, L100.new n⟩
  simpa using this

end Go.Proofs.YtppdihpobokfnaaGreatDoor

set_option linter.unusedVariables false
set_option linter.unusedSimpArgs false
namespace Go.Proofs.YtppdihpobokfnaaGreatDoor
open Go Go.RowKit

/-! ### a path without its last name -/
def lastU (p : Bs) : Nat → Nat
  | 0 => 0
  | i + 1 => if p[i]? = some 47 then i else lastU p i
def upP (p : Bs) : Bs × Bs := if lastU p p.length = 0 then ([47], p.drop 1) else (p.take (lastU p p.length), p.drop (lastU p p.length + 1))
/-- a name behind a path -/
def child (p s : Bs) : Bs := (if p = [47] then [] else p) ++ 47 :: s
theorem lastU_at (pre s : Bs) (hs : (47 : UInt8) ∉ s) : ∀ i, i ≤ s.length → lastU (pre ++ 47 :: s) (pre.length + 1 + i) = pre.length
  | 0, _ => by
    rw [Nat.add_zero, lastU, if_pos]
    rw [List.getElem?_append_right (Nat.le_refl _), Nat.sub_self]
    rfl
  | i + 1, hi => by
    rw [← Nat.add_assoc, lastU, if_neg]
    · exact lastU_at pre s hs i (by omega)
    · rw [List.getElem?_append_right (by omega), show pre.length + 1 + i - pre.length = i + 1 by omega, List.getElem?_cons_succ]
      intro q
      exact hs (List.mem_of_getElem? q)
theorem up_child {p s : Bs} (hp : p ≠ []) (hs : (47 : UInt8) ∉ s) : upP (child p s) = (p, s) := by
  have hl : ∀ pre : Bs, lastU (pre ++ 47 :: s) (pre ++ 47 :: s).length = pre.length := fun pre => by
    have := lastU_at pre s hs s.length (Nat.le_refl _)
    rw [List.length_append, List.length_cons, show pre.length + (s.length + 1) = pre.length + 1 + s.length by omega]
    exact this
  unfold upP child
  by_cases c : p = [47]
  · rw [if_pos c, hl]
    simp [c]
  · rw [if_neg c, hl, if_neg (by simpa using hp)]
    simp

/-! ### what is seen, with the names by which it is -/
def seenQ (m : Md) : Nat → Nat → Bs → List (Bs × En)
  | 0, _, _ => []
  | f + 1, k, path => (m.get k).names.flatMap fun x => (child path x.1, ⟨k, x.1, x.2⟩) :: seenQ m f x.2 (child path x.1)
theorem seenQ_P (m : Md) : ∀ (f k : Nat) (path : Bs), seenP m f k path = (path, k) :: (seenQ m f k path).map fun q => (q.1, q.2.node)
  | 0, k, path => rfl
  | f + 1, k, path => by
    rw [seenP, seenQ, List.map_flatMap]
    congr 1
    rw [List.flatMap_def, List.flatMap_def]
    congr 1
    refine List.map_congr_left fun y _ => ?_
    rw [List.map_cons]
    exact seenQ_P m f y.2 _
theorem seenQ_E (m : Md) : ∀ (f k : Nat) (path : Bs), (seenQ m f k path).map (·.2) = seenE m f k
  | 0, k, path => rfl
  | f + 1, k, path => by
    rw [seenQ, seenE, List.map_flatMap, List.flatMap_def, List.flatMap_def]
    congr 1
    refine List.map_congr_left fun y _ => ?_
    rw [List.map_cons, seenQ_E m f]
def allQ (m : Md) : List (Bs × En) := seenQ m m.nodes.length 0 [47]
theorem allQ_P (m : Md) : allP m = ([47], 0) :: (allQ m).map fun q => (q.1, q.2.node) := seenQ_P m _ _ _

/-- each is told behind its directory -/
def Told (m : Md) : List (Bs × Nat) → List (Bs × En) → Prop
  | _, [] => True
  | acc, q :: l => (∃ z ∈ acc, q.1 = child z.1 q.2.name ∧ z.2 = q.2.dir) ∧ Told m (acc ++ [(q.1, q.2.node)]) l
theorem Told.mono {m : Md} : ∀ {l : List (Bs × En)} {acc acc' : List (Bs × Nat)}, Told m acc l → (∀ z ∈ acc, z ∈ acc') → Told m acc' l
  | [], _, _, _, _ => trivial
  | q :: l, acc, acc', h, hs => by
    obtain ⟨⟨z, h1, h2⟩, h3⟩ := h
    refine ⟨⟨z, hs z h1, h2⟩, h3.mono fun z hz => ?_⟩
    rcases List.mem_append.1 hz with hz | hz
    · exact List.mem_append.2 (.inl (hs z hz))
    · exact List.mem_append.2 (.inr hz)
theorem Told.append {m : Md} : ∀ {l l' : List (Bs × En)} {acc : List (Bs × Nat)}, Told m acc l → Told m acc l' → Told m acc (l ++ l')
  | [], _, _, _, h => h
  | q :: l, l', acc, h, h' => ⟨h.1, Told.append h.2 (h'.mono fun z hz => List.mem_append.2 (.inl hz))⟩
theorem told_flat {m : Md} {acc : List (Bs × Nat)} {g : Bs × Nat → List (Bs × En)} : ∀ (l : List (Bs × Nat)), (∀ x ∈ l, Told m acc (g x)) → Told m acc (l.flatMap g)
  | [], _ => trivial
  | x :: l, h => by
    rw [List.flatMap_cons]
    exact (h x (by simp)).append (told_flat l fun y hy => h y (List.mem_cons_of_mem _ hy))
theorem told_seen (m : Md) : ∀ (f k : Nat) (path : Bs) (acc : List (Bs × Nat)), (path, k) ∈ acc → Told m acc (seenQ m f k path)
  | 0, _, _, _, _ => trivial
  | f + 1, k, path, acc, h => by
    rw [seenQ]
    refine told_flat _ fun x _ => ⟨⟨(path, k), h, rfl, rfl⟩, ?_⟩
    exact told_seen m f x.2 _ _ (List.mem_append.2 (.inr (by simp)))
theorem Told.at {m : Md} : ∀ {l : List (Bs × En)} {acc : List (Bs × Nat)}, Told m acc l → ∀ (i : Nat) (q : Bs × En), l[i]? = some q → ∃ (j : Nat) (z : Bs × Nat), j < acc.length + i ∧ (acc ++ l.map fun q => (q.1, q.2.node))[j]? = some z ∧ q.1 = child z.1 q.2.name ∧ z.2 = q.2.dir
  | [], _, _, i, q, h => by simp at h
  | q0 :: l, acc, ht, 0, q, h => by
    simp at h
    subst h
    obtain ⟨z, h1, h2⟩ := ht.1
    obtain ⟨j, hj, e⟩ := List.getElem_of_mem h1
    exact ⟨j, z, by omega, by rw [List.getElem?_append_left hj, List.getElem?_eq_getElem hj, e], h2⟩
  | q0 :: l, acc, ht, i + 1, q, h => by
    obtain ⟨j, z, h1, h2, h3⟩ := ht.2.at i q (by simpa using h)
    refine ⟨j, z, ?_, ?_, h3⟩
    · rw [List.length_append, List.length_singleton] at h1
      omega
    · rw [List.append_assoc] at h2
      exact h2

section
variable {N : Nat} {X : Nat → Prop} {m : Md} {j k : Nat} {d x : Nd} {s p : Bs}
/-! ### a path says where it leads -/
def Leads (m : Md) (z : Bs × Nat) : Prop := ∃ xs : List Bs, (∀ x ∈ xs, OkName x) ∧ z.1 = pathS xs ∧ walkFrom m 0 xs = (z.2, 0)
theorem flat_ne {xs : List Bs} (h : ∀ x ∈ xs, OkName x) : flat xs ≠ [47] := by
  cases xs with
  | nil => simp [flat]
  | cons x xs =>
    intro e
    have h1 := (nmOk_iff.1 (h x (by simp)).1).1
    have h2 : x = [] := by
      simp [flat] at e
      exact e.1
    rw [h2] at h1
    simp at h1
theorem leads_inj {p : Bs} {k k' : Nat} (h : Leads m (p, k)) (h' : Leads m (p, k')) : k = k' := by
  obtain ⟨xs, h1, h2, h3⟩ := h
  obtain ⟨ys, g1, g2, g3⟩ := h'
  simp only [] at h2 h3 g2 g3
  have hp : ∀ zs : List Bs, (∀ x ∈ zs, OkName x) → pieces (flat zs) = [] :: zs := fun zs hz => by
    have := pieces_flat zs [] (fun y hy => by
      rcases List.mem_cons.1 hy with rfl | hy
      · simp
      · exact nmOk_slash (hz y hy).1)
    simpa using this
  have e : xs = ys := by
    rw [h2] at g2
    unfold pathS at g2
    by_cases c : xs = []
    · by_cases c' : ys = []
      · rw [c, c']
      · rw [if_pos c, if_neg c'] at g2
        exact absurd g2.symm (flat_ne g1)
    · by_cases c' : ys = []
      · rw [if_neg c, if_pos c'] at g2
        exact absurd g2 (flat_ne h1)
      · rw [if_neg c, if_neg c'] at g2
        have := congrArg pieces g2
        rw [hp xs h1, hp ys g1] at this
        injection this
  subst e
  rw [h3] at g3
  cases g3
  rfl
theorem leads_child (h : Inv N X m) (hl : Leads m (p, k)) (hk : lookK m.nodes k = some x) {y : Bs × Nat} (hy : y ∈ x.names) : Leads m (child p y.1, y.2) := by
  have he : (⟨k, y.1, y.2⟩ : En) ∈ entsOf m.nodes := h.mem.2 ⟨x, hk, hy⟩
  have hok := h.nm _ he
  simp only [] at hok
  obtain ⟨xs, h1, h2, h3⟩ := hl
  simp only [] at h2 h3
  refine ⟨xs ++ [y.1], fun z hz => ?_, ?_, ?_⟩
  · rcases List.mem_append.1 hz with hz | hz
    · exact h1 z hz
    · rw [List.mem_singleton.1 hz]; exact hok
  · simp only []
    have e1 : pathS (xs ++ [y.1]) = flat xs ++ 47 :: y.1 := by
      unfold pathS
      rw [if_neg (by simp), flat_append]
      simp [flat]
    rw [e1, child, h2]
    unfold pathS
    by_cases c : xs = []
    · rw [if_pos c, if_pos rfl, c]; rfl
    · rw [if_neg c, if_neg (flat_ne h1)]
  · simp only []
    obtain ⟨x', hx', h2'⟩ := h.isdir he
    simp only [] at hx'
    rw [hk] at hx'
    cases hx'
    rw [walkFrom_app (by rw [h3]), h3]
    simp only []
    have hst : stepP m k y.1 = (y.2, 0) := by rw [step_name hk h2' hok.2, lookN_of_mem (h.shape k x hk).2.1 hy]
    rw [walk_cons (by rw [hst]), hst]
    rfl
theorem leads_seen (h : Inv N X m) : ∀ (f k : Nat) (path : Bs), Leads m (path, k) → ∀ q ∈ seenQ m f k path, Leads m (q.1, q.2.node) ∧ q.2 ∈ entsOf m.nodes
  | 0, _, _, _, q, hq => by cases hq
  | f + 1, k, path, hl, q, hq => by
    rw [seenQ] at hq
    obtain ⟨y, hy, hq⟩ := List.mem_flatMap.1 hq
    cases hk : lookK m.nodes k with
    | none =>
      rw [Md.get, hk] at hy
      cases hy
    | some x =>
      rw [Md.get_look hk] at hy
      have hc := leads_child h hl hk hy
      rcases List.mem_cons.1 hq with rfl | hq
      · exact ⟨hc, h.mem.2 ⟨x, hk, hy⟩⟩
      · exact leads_seen h f y.2 _ hc q hq
theorem leads_root (m : Md) : Leads m ([47], 0) := ⟨[], (fun _ h => by cases h), rfl, rfl⟩
theorem leads_all (h : Inv N X m) : ∀ z ∈ allP m, Leads m z := fun z hz => by
  rw [allQ_P] at hz
  rcases List.mem_cons.1 hz with rfl | hz
  · exact leads_root m
  · obtain ⟨q, hq, rfl⟩ := List.mem_map.1 hz
    exact (leads_seen h _ _ _ (leads_root m) q hq).1
theorem allQ_ents (h : Inv N X m) : ((allQ m).map (·.2)).Perm (entsOf m.nodes) := by
  unfold allQ
  rw [seenQ_E]
  exact seenE_all h
/-- each that is told, but the root, is told behind its directory, by its name -/
theorem all_up (h : Inv N X m) {i : Nat} {q : Bs × En} (hq : (allQ m)[i]? = some q) : ∃ (j : Nat) (z : Bs × Nat), j < i + 1 ∧ (allP m)[j]? = some z ∧ q.1 = child z.1 q.2.name ∧ z.2 = q.2.dir ∧ upP q.1 = (z.1, q.2.name) ∧ q.2 ∈ entsOf m.nodes := by
  have ht := told_seen m m.nodes.length 0 [47] [([47], 0)] (by simp)
  obtain ⟨j, z, h1, h2, h3, h4⟩ := ht.at i q hq
  have he := (leads_seen h _ _ _ (leads_root m) q (List.mem_of_getElem? hq)).2
  have hz : (allP m)[j]? = some z := by rw [allQ_P]; exact h2
  refine ⟨j, z, by simpa [Nat.add_comm] using h1, hz, h3, h4, ?_, he⟩
  rw [h3]
  refine up_child ?_ (nmOk_slash (h.nm _ he).1)
  obtain ⟨xs, g1, g2, _⟩ := leads_all h z (List.mem_of_getElem? hz)
  rw [g2]
  unfold pathS
  by_cases c : xs = []
  · rw [if_pos c]; simp
  · rw [if_neg c]
    cases xs with
    | nil => exact absurd rfl c
    | cons y ys =>
      rw [show y :: ys = [y] ++ ys from rfl, flat_append]
      simp [flat]

/-! ### how many -/
theorem count_dir : ∀ {l : List (Nat × Nd)}, Rise l → lookK l k = some d → (entsOf l).countP (fun e => e.dir == k) = d.names.length
  | [], _, h => by cases h
  | p :: l, hr, h => by
    have h0 : ∀ (k' : Nat) (ns : List (Bs × Nat)), (entD k' ns).countP (fun e => e.dir == k) = if k' = k then ns.length else 0 := fun k' ns => by
      unfold entD
      rw [List.countP_map]
      by_cases c : k' = k
      · rw [if_pos c, List.countP_eq_length.2]
        intro y _
        simp [c]
      · rw [if_neg c, List.countP_eq_zero]
        intro y _
        simp [c]
    have e1 : entsOf (p :: l) = entD p.1 p.2.names ++ entsOf l := by simp [entsOf]
    rw [e1, List.countP_append, h0]
    rw [lookK_cons] at h
    by_cases c : p.1 = k
    · rw [if_pos c] at h ⊢
      cases h
      have : (entsOf l).countP (fun e => e.dir == k) = 0 := by
        rw [List.countP_eq_zero]
        intro e he
        unfold entsOf at he
        obtain ⟨q, hq, he⟩ := List.mem_flatMap.1 he
        unfold entD at he
        obtain ⟨y, _, rfl⟩ := List.mem_map.1 he
        have := hr.head q hq
        simp
        omega
      omega
    · rw [if_neg c] at h ⊢
      rw [count_dir hr.tail h]
      omega
theorem count_id (h : Inv N X m) (k : Nat) : (allP m).countP (fun z => z.2 == k) = (if k = 0 then 1 else 0) + Cn (entsOf m.nodes) k := by
  rw [allQ_P, List.countP_cons, List.countP_map]
  have e1 : (allQ m).countP ((fun z : Bs × Nat => z.2 == k) ∘ fun q => (q.1, q.2.node)) = Cn (entsOf m.nodes) k := by
    rw [← Cn_perm (allQ_ents h), Cn, List.countP_map]
    rfl
  rw [e1]
  by_cases c : k = 0
  · subst c; simp [Nat.add_comm]
  · rw [if_neg c]
    have : ((0 : Nat) == k) = false := by simpa using fun q => c q.symm
    simp [this]
theorem root_none (h : Inv N X m) : Cn (entsOf m.nodes) 0 = 0 := by
  unfold Cn
  rw [List.countP_eq_zero]
  intro e he
  have := (h.there e he).1
  simpa using this
theorem lone_dir (h : Inv N X m) (hk : lookK m.nodes k = some d) (h2 : d.kind = 2) {u v : Bs × Nat} (hu : u ∈ allP m) (hv : v ∈ allP m) (hu' : u.2 = k) (hv' : v.2 = k) : u = v := by
  have h1 : (allP m).countP (fun z => z.2 == k) = 1 := by
    rw [count_id h]
    by_cases c : k = 0
    · subst c; rw [if_pos rfl, root_none h]
    · rw [if_neg c, h.one k d hk h2 c]
  rw [List.countP_eq_length_filter] at h1
  obtain ⟨w, hw⟩ := List.length_eq_one_iff.1 h1
  have a1 : u ∈ (allP m).filter fun z => z.2 == k := List.mem_filter.2 ⟨hu, by simpa using hu'⟩
  have a2 : v ∈ (allP m).filter fun z => z.2 == k := List.mem_filter.2 ⟨hv, by simpa using hv'⟩
  rw [hw] at a1 a2
  rw [List.mem_singleton.1 a1, List.mem_singleton.1 a2]
/-- a path's directory is another one just if its number is -/
theorem up_iff (h : Inv N X m) {q : Bs × En} (hq : q ∈ allQ m) {z : Bs × Nat} (hz : z ∈ allP m) : ((upP q.1).1 == z.1) = (q.2.dir == z.2) := by
  obtain ⟨i, hi, e⟩ := List.getElem_of_mem hq
  obtain ⟨j, y, h1, h2, h3, h4, h5, h6⟩ := all_up h (i := i) (q := q) (by rw [List.getElem?_eq_getElem hi, e])
  have hy := List.mem_of_getElem? h2
  rw [h5]
  simp only []
  rw [Bool.eq_iff_iff, beq_iff_eq, beq_iff_eq]
  constructor
  · intro e
    have l1 : Leads m (y.1, y.2) := leads_all h y hy
    have l2 : Leads m (y.1, z.2) := by rw [e]; exact leads_all h z hz
    rw [← h4]
    exact leads_inj l1 l2
  · intro e
    obtain ⟨x, hx, hx2⟩ := h.isdir h6
    have := lone_dir h hx hx2 hy hz h4 e.symm
    rw [this]

theorem all_there (h : Inv N X m) : ∀ z ∈ allP m, ∃ d, lookK m.nodes z.2 = some d := fun z hz => by
  rw [allQ_P] at hz
  rcases List.mem_cons.1 hz with rfl | hz
  · obtain ⟨d, h1, _⟩ := h.root
    exact ⟨d, h1⟩
  · obtain ⟨q, hq, rfl⟩ := List.mem_map.1 hz
    obtain ⟨_, d, h1, _⟩ := h.there _ (leads_seen h _ _ _ (leads_root m) q hq).2
    exact ⟨d, h1⟩
end

/-! ### a view that is a tree -/
def cntP (V : List It) (x : It) (n : Nat) : Nat := (V.take n).countP fun y => y.node == x.node
def cntN (V : List It) (x : It) (n : Nat) : Nat := ((V.take n).drop 1).countP fun y => (upP y.path).1 == x.path
def cntD (V : List It) (x : It) (n : Nat) : Nat := ((V.take n).drop 1).countP fun y => (upP y.path).1 == x.path && y.st.kind == 2
def atP (V : List It) (p : Bs) : Int := match V.findIdx? (fun y => y.path == p) with | some i => (i : Int) | none => -1
structure WholeOk (V : List It) : Prop where
  head : ∃ x, V[0]? = some x ∧ x.path = [47] ∧ x.node = 0 ∧ x.st.kind = 2
  up : ∀ (k : Nat) y, 0 < k → V[k]? = some y → y.path ≠ [] ∧ (upP y.path).2 ≠ [] ∧ 0 ≤ atP V (upP y.path).1 ∧ atP V (upP y.path).1 < (k : Int)
  same : ∀ (i k : Nat) x y, V[i]? = some x → V[k]? = some y → y.node = x.node → y.st = x.st ∧ y.data = x.data
  count : ∀ (i : Nat) x, V[i]? = some x → (x.st.kind = 2 ∧ cntP V x V.length = 1 ∧ x.st.links = 2 + (cntD V x V.length : Int) ∧ x.st.size = (cntN V x V.length : Int) ∧ x.data = []) ∨ (x.st.kind = 1 ∧ (cntP V x V.length : Int) = x.st.links ∧ x.st.size = (x.data.length : Int) ∧ cntN V x V.length = 0)

section
variable {N : Nat} {X : Nat → Prop} {m : Md} {j k : Nat} {d x : Nd} {s p : Bs}
theorem numOf_inj {l : List Nat} {a b : Nat} (ha : a ∈ l) (hb : b ∈ l) (h : numOf l a = numOf l b) : a = b := by
  unfold numOf at h
  have key : ∀ c, c ∈ l → ∃ i, l.findIdx? (· == c) = some i ∧ l[i]? = some c := fun c hc => by
    cases hi : l.findIdx? (· == c) with
    | none =>
      rw [List.findIdx?_eq_none_iff] at hi
      have := hi c hc
      simp at this
    | some i =>
      obtain ⟨h1, h2, _⟩ := List.findIdx?_eq_some_iff_getElem.1 hi
      refine ⟨i, rfl, ?_⟩
      rw [List.getElem?_eq_getElem h1]
      simpa using h2
  obtain ⟨i, h1, h2⟩ := key a ha
  obtain ⟨i', h1', h2'⟩ := key b hb
  rw [h1, h1'] at h
  simp only [] at h
  have : i = i' := by omega
  subst this
  rw [h2] at h2'
  exact Option.some.inj h2'
theorem numOf_lt {l : List Nat} (k : Nat) : numOf l k < (l.length : Int) := by
  unfold numOf
  cases hi : l.findIdx? (· == k) with
  | none => simp only []; omega
  | some i =>
    obtain ⟨h1, _⟩ := List.findIdx?_eq_some_iff_getElem.1 hi
    simp only []
    omega
theorem nums_nodup (l : List Nat) : (numsOf l).Nodup := by
  unfold numsOf
  have key : ∀ (l acc : List Nat), acc.Nodup → (l.foldl (fun acc k => if acc.contains k then acc else acc ++ [k]) acc).Nodup := by
    intro l
    induction l with
    | nil => exact fun _ h => h
    | cons y l ih =>
      intro acc h
      rw [List.foldl_cons]
      refine ih _ ?_
      by_cases c : acc.contains y
      · rw [if_pos c]; exact h
      · rw [if_neg c, List.nodup_append]
        refine ⟨h, by simp, fun a ha b hb => ?_⟩
        rw [List.mem_singleton.1 hb]
        rintro rfl
        exact c (by simpa using ha)
  exact key l [] (by simp)
theorem nodup_len : ∀ {l : List Nat} {l' : List Nat}, l.Nodup → (∀ x ∈ l, x ∈ l') → l.length ≤ l'.length
  | [], _, _, _ => Nat.zero_le _
  | a :: l, l', hn, hs => by
    obtain ⟨h1, h2⟩ := List.nodup_cons.1 hn
    have ha := hs a (by simp)
    have := nodup_len (l := l) (l' := l'.erase a) h2 (fun x hx => by
      have hx' := hs x (List.mem_cons_of_mem _ hx)
      have hne : x ≠ a := fun e => h1 (e ▸ hx)
      exact (List.mem_erase_of_ne hne).2 hx')
    rw [List.length_erase_of_mem ha] at this
    have := List.length_pos_of_mem ha
    rw [List.length_cons]
    omega
/-- never more numbers than nodes -/
theorem nums_le (h : Inv N X m) : (numsOf ((allP m).map (·.2))).length ≤ m.nodes.length := by
  have := nodup_len (nums_nodup ((allP m).map (·.2))) (l' := m.nodes.map (·.1)) (fun k hk => by
    obtain ⟨z, hz, rfl⟩ := List.mem_map.1 (mem_numsOf.1 hk)
    obtain ⟨d, hd⟩ := all_there h z hz
    exact List.mem_map.2 ⟨_, lookK_mem hd, rfl⟩)
  simpa using this
theorem view_node (h : Inv N X m) : ∀ y ∈ viewP m, 0 ≤ y.node ∧ y.node < (m.nodes.length : Int) := fun y hy => by
  unfold viewP at hy
  simp only [] at hy
  obtain ⟨z, hz, rfl⟩ := List.mem_map.1 hy
  simp only []
  have h1 := numOf_lt (l := numsOf ((allP m).map (·.2))) z.2
  have h2 := nums_le h
  refine ⟨?_, by omega⟩
  have hm : z.2 ∈ numsOf ((allP m).map (·.2)) := mem_numsOf.2 (List.mem_map.2 ⟨z, hz, rfl⟩)
  unfold numOf
  cases hi : (numsOf ((allP m).map (·.2))).findIdx? (· == z.2) with
  | none =>
    rw [List.findIdx?_eq_none_iff] at hi
    have := hi z.2 hm
    simp at this
  | some i => simp only []; omega

/-- WHAT CAN BE SEEN IS A TREE -/
theorem whole_view (h : Inv N X m) : WholeOk (viewP m) := by
  obtain ⟨ns, hns⟩ : ∃ ns, ns = numsOf ((allP m).map (·.2)) := ⟨_, rfl⟩
  obtain ⟨it, hit⟩ : ∃ it : Bs × Nat → It, it = fun z => ⟨z.1, numOf ns z.2, toldP (m.get z.2), (m.get z.2).data⟩ := ⟨_, rfl⟩
  have hV : viewP m = (allP m).map it := by rw [hit, hns]; rfl
  have hin : ∀ z ∈ allP m, z.2 ∈ ns := fun z hz => by rw [hns]; exact mem_numsOf.2 (List.mem_map.2 ⟨z, hz, rfl⟩)
  have hget : ∀ (i : Nat) (y : It), (viewP m)[i]? = some y → ∃ z, (allP m)[i]? = some z ∧ z ∈ allP m ∧ y = it z := fun i y hy => by
    rw [hV, List.getElem?_map] at hy
    obtain ⟨z, h1, h2⟩ := Option.map_eq_some_iff.1 hy
    exact ⟨z, h1, List.mem_of_getElem? h1, h2.symm⟩
  have hnode : ∀ u ∈ allP m, ∀ v ∈ allP m, ((it u).node == (it v).node) = (u.2 == v.2) := fun u hu v hv => by
    rw [hit]
    simp only []
    rw [Bool.eq_iff_iff, beq_iff_eq, beq_iff_eq]
    exact ⟨fun e => numOf_inj (hin u hu) (hin v hv) e, fun e => by rw [e]⟩
  refine ⟨?_, fun k y hk hy => ?_, fun i k x y hx hy e => ?_, fun i x hx => ?_⟩
  · obtain ⟨d, h1, h2, _⟩ := h.root
    refine ⟨it ([47], 0), by rw [hV, allQ_P]; rfl, by rw [hit], ?_, by rw [hit]; simp only [toldP, Md.get_look h1, h2]⟩
    rw [hit, hns, allQ_P]
    simp only [List.map_cons]
    have : ∃ t, numsOf (0 :: ((allQ m).map fun q => (q.1, q.2.node)).map (·.2)) = 0 :: t := by
      unfold numsOf
      rw [List.foldl_cons]
      have key : ∀ (l acc : List Nat), ∃ t, l.foldl (fun acc k => if acc.contains k then acc else acc ++ [k]) acc = acc ++ t := by
        intro l
        induction l with
        | nil => exact fun acc => ⟨[], by simp⟩
        | cons y l ih =>
          intro acc
          rw [List.foldl_cons]
          obtain ⟨t, ht⟩ := ih (if acc.contains y then acc else acc ++ [y])
          by_cases c : acc.contains y
          · rw [if_pos c] at ht ⊢
            exact ⟨t, ht⟩
          · rw [if_neg c] at ht ⊢
            exact ⟨y :: t, by rw [ht]; simp⟩
      obtain ⟨t, ht⟩ := key (((allQ m).map fun q => (q.1, q.2.node)).map (·.2)) [0]
      exact ⟨t, by simpa using ht⟩
    obtain ⟨t, ht⟩ := this
    rw [ht]
    show numOf (0 :: t) 0 = 0
    simp [numOf, List.findIdx?_cons]
  · obtain ⟨z, h1, h2, rfl⟩ := hget k y hy
    obtain ⟨i, rfl⟩ : ∃ i, k = i + 1 := ⟨k - 1, by omega⟩
    have hz := h1
    rw [allQ_P, List.getElem?_cons_succ, List.getElem?_map] at hz
    obtain ⟨q, hq, rfl⟩ := Option.map_eq_some_iff.1 hz
    obtain ⟨j, w, g1, g2, g3, g4, g5, g6⟩ := all_up h hq
    have hp : (it (q.1, q.2.node)).path = q.1 := by rw [hit]
    rw [hp, g5]
    try simp only []
    refine ⟨?_, ?_, ?_⟩
    · rw [g3]; unfold child; simp
    · intro e
      have := (nmOk_iff.1 (h.nm _ g6).1).1
      rw [e] at this
      simp at this
    · unfold atP
      have hw : (viewP m)[j]? = some (it w) := by rw [hV, List.getElem?_map, g2]; rfl
      obtain ⟨hlt, hw2⟩ := List.getElem?_eq_some_iff.1 hw
      cases hi : (viewP m).findIdx? (fun y => y.path == w.1) with
      | none =>
        rw [List.findIdx?_eq_none_iff] at hi
        have := hi (it w) (List.mem_of_getElem? hw)
        rw [hit] at this
        simp at this
      | some i0 =>
        simp only []
        obtain ⟨a1, a2, a3⟩ := List.findIdx?_eq_some_iff_getElem.1 hi
        have : ¬ j < i0 := fun hj => by
          have := a3 j hj
          rw [hw2, hit] at this
          simp at this
        omega
  · obtain ⟨u, _, hu, rfl⟩ := hget i x hx
    obtain ⟨v, _, hv, rfl⟩ := hget k y hy
    have : v.2 = u.2 := by
      have := hnode v hv u hu
      rw [e] at this
      simpa using this.symm
    rw [hit]
    simp only [this]
    exact ⟨trivial, trivial⟩
  · obtain ⟨z, hi, hz, rfl⟩ := hget i x hx
    obtain ⟨d, hd⟩ := all_there h z hz
    have hst : (it z).st = toldP d ∧ (it z).data = d.data ∧ (it z).path = z.1 := by rw [hit]; simp only [Md.get_look hd]; exact ⟨trivial, trivial, trivial⟩
    have hP : cntP (viewP m) (it z) (viewP m).length = (if z.2 = 0 then 1 else 0) + Cn (entsOf m.nodes) z.2 := by
      unfold cntP
      rw [List.take_length, ← count_id h, hV, List.countP_map]
      exact List.countP_congr fun u hu => by
        show ((it u).node == (it z).node) = true ↔ _
        rw [hnode u hu z hz]
    have hdrop : ((viewP m).take (viewP m).length).drop 1 = (allQ m).map fun q => it (q.1, q.2.node) := by
      rw [List.take_length, hV, allQ_P, List.map_cons, List.drop_one, List.tail_cons, List.map_map]
      rfl
    have hN : cntN (viewP m) (it z) (viewP m).length = d.names.length := by
      unfold cntN
      rw [hdrop, List.countP_map, ← count_dir h.rise hd, ← (allQ_ents h).countP_eq, List.countP_map]
      exact List.countP_congr fun q hq => by
        show ((upP (it (q.1, q.2.node)).path).1 == (it z).path) = true ↔ (q.2.dir == z.2) = true
        have : (it (q.1, q.2.node)).path = q.1 := by rw [hit]
        rw [this, hst.2.2, up_iff h hq hz]
    have hD : cntD (viewP m) (it z) (viewP m).length = Cd m.kd (entsOf m.nodes) z.2 := by
      unfold cntD
      rw [hdrop, List.countP_map, ← Cd_perm (allQ_ents h), Cd, List.countP_map]
      exact List.countP_congr fun q hq => by
        show ((upP (it (q.1, q.2.node)).path).1 == (it z).path && (it (q.1, q.2.node)).st.kind == 2) = true ↔ (q.2.dir == z.2 && m.kd q.2.node == 2) = true
        have e1 : (it (q.1, q.2.node)).path = q.1 := by rw [hit]
        have e2 : (it (q.1, q.2.node)).st.kind = m.kd q.2.node := by rw [hit]; rfl
        rw [e1, e2, hst.2.2, up_iff h hq hz]
    have hl := h.links z.2 d hd
    rw [hP, hN, hD, hst.1, hst.2.1]
    unfold toldP
    simp only []
    rcases (h.shape _ d hd).1 with ⟨q1, q2⟩ | ⟨q1, q2⟩
    · right
      rw [if_neg (by omega)] at hl
      have hz0 := h.file0 hd q1
      rw [if_neg hz0, q2]
      refine ⟨q1, by omega, by simp, rfl⟩
    · left
      rw [if_pos q1] at hl
      refine ⟨q1, ?_, hl, by rw [q2]; simp, q2⟩
      by_cases c : z.2 = 0
      · rw [if_pos c, c, root_none h]
      · rw [if_neg c, h.one _ d hd q1 c]
end

end Go.Proofs.YtppdihpobokfnaaGreatDoor

set_option linter.unusedVariables false
set_option linter.unusedSimpArgs false
namespace Go.Proofs.YtppdihpobokfnaaGreatDoor
open Go Go.RowKit

def okD (x : Bs) : Bool := !(x == [46]) && !(x == [46, 46])
def plainQ (cur : Bs) : Bs → Bool
  | [] => okD cur
  | c :: r => if c = 47 then okD cur && plainQ [] r else plainQ (cur ++ [c]) r
theorem plainQ_eq : ∀ (p cur : Bs), plainQ cur p = match pieces p with | x :: t => okD (cur ++ x) && t.all okD | [] => true
  | [], cur => by simp [plainQ, pieces]
  | c :: r, cur => by
    rw [plainQ, pieces]
    by_cases h : c = 47
    · rw [if_pos h, if_pos h, plainQ_eq r []]
      cases hp : pieces r with
      | nil => exact absurd hp (pieces_ne r)
      | cons x t => simp
    · rw [if_neg h, if_neg h, plainQ_eq r]
      cases hp : pieces r with
      | nil => exact absurd hp (pieces_ne r)
      | cons x t => simp
theorem plainP_Q (p : Bs) : plainP p = plainQ [] p := by
  rw [plainQ_eq]
  unfold plainP
  cases hp : pieces p with
  | nil => exact absurd hp (pieces_ne p)
  | cons x t =>
    simp only [List.nil_append, List.all_cons]
    rfl
/-- so far behind a path's start -/
def DotAt (p : Bs) (f k : Nat) : Prop := f ≤ k ∧ k ≤ p.length ∧ plainP p = plainQ ((p.take k).drop f) (p.drop k)
theorem DotAt.start (p : Bs) : DotAt p 0 0 := ⟨Nat.le_refl _, Nat.zero_le _, by simp [plainP_Q]⟩
theorem DotAt.more {p : Bs} {f k : Nat} (h : DotAt p f k) {c : UInt8} (hc : p[k]? = some c) (hne : c ≠ 47) : DotAt p f (k + 1) := by
  obtain ⟨h1, h2, h3⟩ := h
  obtain ⟨hk, e⟩ := List.getElem?_eq_some_iff.1 hc
  refine ⟨by omega, by omega, ?_⟩
  rw [h3, List.drop_eq_getElem_cons hk, e, plainQ, if_neg hne, List.take_succ_eq_append_getElem hk, e, List.drop_append_of_le_length (by simp; omega)]
theorem DotAt.slash {p : Bs} {f k : Nat} (h : DotAt p f k) (hc : p[k]? = some 47) (ho : okD ((p.take k).drop f) = true) : DotAt p (k + 1) (k + 1) := by
  obtain ⟨h1, h2, h3⟩ := h
  obtain ⟨hk, e⟩ := List.getElem?_eq_some_iff.1 hc
  refine ⟨Nat.le_refl _, by omega, ?_⟩
  have e2 : (p.take (k + 1)).drop (k + 1) = [] := List.drop_of_length_le (List.length_take_le ..)
  rw [h3, List.drop_eq_getElem_cons hk, e, plainQ, if_pos rfl, ho, Bool.true_and, e2]
theorem DotAt.bad {p : Bs} {f k : Nat} (h : DotAt p f k) (hc : p[k]? = some 47 ∨ k = p.length) (ho : okD ((p.take k).drop f) = false) : plainP p = false := by
  obtain ⟨h1, h2, h3⟩ := h
  rcases hc with hc | hc
  · obtain ⟨hk, e⟩ := List.getElem?_eq_some_iff.1 hc
    rw [h3, List.drop_eq_getElem_cons hk, e, plainQ, if_pos rfl, ho, Bool.false_and]
  · have e2 : p.drop k = [] := List.drop_of_length_le (by omega)
    rw [h3, e2, plainQ, ho]
theorem DotAt.last {p : Bs} {f k : Nat} (h : DotAt p f k) (hc : k = p.length) (ho : okD ((p.take k).drop f) = true) : plainP p = true := by
  obtain ⟨h1, h2, h3⟩ := h
  have e2 : p.drop k = [] := List.drop_of_length_le (by omega)
  rw [h3, e2, plainQ, ho]

theorem lastU_lt (p : Bs) (i : Nat) (h : 0 < i) : lastU p i < i := by
  induction i with
  | zero => omega
  | succ i ih =>
    rw [lastU]
    split
    · omega
    · cases i with
      | zero => simp [lastU]
      | succ i => have := ih (by omega); omega

end Go.Proofs.YtppdihpobokfnaaGreatDoor

set_option linter.unusedVariables false
set_option linter.unusedSimpArgs false
namespace Go.Proofs.YtppdihpobokfnaaGreatDoor
open Go Go.RowKit

section
variable {N : Nat} {X : Nat → Prop} {m : Md} {j k : Nat} {d x dd : Nd} {s : Bs}
theorem lim_gone (m : Md) (k : Nat) : (goneP m k).limit = m.limit := by unfold goneP; split <;> rfl
theorem lim_fresh (m : Md) (a : Pl) (z : Int) : (freshP m a z).2.limit = m.limit := by unfold freshP; split <;> rfl
theorem lim_drop (m : Md) (a : Pl) : (dropP m a).limit = m.limit := by
  unfold dropP
  simp only
  split <;> exact (lim_gone _ _).trans rfl
theorem lim_move (m : Md) (a b : Pl) : (moveP m a b).limit = m.limit := by
  rw [moveP_eq]
  have h : (if 0 ≤ b.node then dropP m b else m).limit = m.limit := by
    split
    · exact lim_drop m b
    · rfl
  rw [← h]
  generalize (if 0 ≤ b.node then dropP m b else m) = m0
  unfold moveQ
  simp only
  split <;> rfl
theorem lim_openAt (m : Md) (c : Cl) (k : Nat) : (openAt m c k).2.limit = m.limit := by
  unfold openAt
  split
  · rfl
  · simp only
    split <;> rfl
theorem lim_doP (m : Md) (c : Cl) : (doP m c).2.limit = m.limit := by
  unfold doP
  split
  · unfold openP
    split
    · rfl
    split
    · rfl
    split
    · rfl
    split
    · simp only
      split
      · rfl
      split
      · rfl
      · exact (lim_openAt _ _ _).trans (lim_fresh _ _ _)
    split
    · rfl
    · exact lim_openAt _ _ _
  · unfold closeP
    simp only
    split
    · exact lim_gone _ _
    · rfl
  · unfold readP
    split
    · rfl
    · split <;> rfl
  · unfold putP
    split
    · rfl
    · split
      · rfl
      split
      · rfl
      split <;> rfl
  · unfold seekP
    split <;> rfl
  · unfold resizeP
    split
    · rfl
    · split
      · rfl
      split <;> rfl
  · unfold mkdirP
    simp only
    split
    · rfl
    split
    · rfl
    split
    · rfl
    split
    · rfl
    · exact lim_fresh _ _ _
  · unfold rmdirP
    simp only
    split
    · rfl
    split
    · rfl
    split
    · rfl
    · exact lim_drop _ _
  · unfold lnkP
    simp only
    split
    · rfl
    split
    · rfl
    split
    · rfl
    split
    · rfl
    split <;> rfl
  · unfold unlinkP
    simp only
    split
    · rfl
    split
    · rfl
    · exact lim_drop _ _
  · unfold renameP
    simp only
    split
    · rfl
    split
    · rfl
    split
    · rfl
    split
    · rfl
    · exact lim_move _ _ _
  · rfl
  · rfl
  · rfl
  · unfold pinP
    simp only
    split <;> rfl
  · rfl
  · rfl
  · rfl
  · rfl
  · rfl
  · rfl
theorem lim_play (n : Nat) : ∀ (l : List Cl) (m : Md), (l.foldl (fun m c => (doP m c).2) m).limit = m.limit
  | [], m => rfl
  | c :: l, m => by rw [List.foldl_cons, lim_play n l, lim_doP]

/-! ### paths are not long -/
theorem seenQ_long (h : Inv N X m) : ∀ (f k : Nat) (p : Bs), ∀ q ∈ seenQ m f k p, q.1.length ≤ p.length + 33 * f
  | 0, _, _, q, hq => by cases hq
  | f + 1, k, p, q, hq => by
    rw [seenQ] at hq
    obtain ⟨y, hy, hq⟩ := List.mem_flatMap.1 hq
    have hc : (child p y.1).length ≤ p.length + 33 := by
      cases hk : lookK m.nodes k with
      | none =>
        rw [Md.get, hk] at hy
        cases hy
      | some x =>
        rw [Md.get_look hk] at hy
        have hok := (h.nm _ (h.mem.2 ⟨x, hk, hy⟩ : (⟨k, y.1, y.2⟩ : En) ∈ entsOf m.nodes)).1
        have := (nmOk_iff.1 hok).2.1
        simp only [] at this
        unfold child
        split
        · simp; omega
        · simp; omega
    rcases List.mem_cons.1 hq with rfl | hq
    · simp only []
      omega
    · have := seenQ_long h f y.2 _ q hq
      omega
theorem view_long (h : Inv N X m) : ∀ y ∈ viewP m, y.path.length ≤ 1 + 33 * m.nodes.length := fun y hy => by
  unfold viewP at hy
  simp only [] at hy
  obtain ⟨z, hz, rfl⟩ := List.mem_map.1 hy
  simp only []
  rw [allQ_P] at hz
  rcases List.mem_cons.1 hz with rfl | hz
  · simp
  · obtain ⟨q, hq, rfl⟩ := List.mem_map.1 hz
    have := seenQ_long h _ _ _ q hq
    simpa using this
end

/-! ### counts -/
theorem take_drop1 {α : Type} {V : List α} {k : Nat} {y : α} (h : V[k]? = some y) (hk : 0 < k) : (V.take (k + 1)).drop 1 = (V.take k).drop 1 ++ [y] := by
  obtain ⟨hlt, e⟩ := List.getElem?_eq_some_iff.1 h
  rw [List.take_succ_eq_append_getElem hlt, e, List.drop_append_of_le_length (by rw [List.length_take]; omega)]
theorem cntP_step {V : List It} {x y : It} {k : Nat} (h : V[k]? = some y) : cntP V x (k + 1) = cntP V x k + if y.node = x.node then 1 else 0 := by
  obtain ⟨hlt, e⟩ := List.getElem?_eq_some_iff.1 h
  unfold cntP
  rw [List.take_succ_eq_append_getElem hlt, e, List.countP_append]
  by_cases c : y.node = x.node <;> simp [c]
theorem cntN_step {V : List It} {x y : It} {k : Nat} (h : V[k]? = some y) (hk : 0 < k) : cntN V x (k + 1) = cntN V x k + if (upP y.path).1 = x.path then 1 else 0 := by
  unfold cntN
  rw [take_drop1 h hk, List.countP_append]
  by_cases c : (upP y.path).1 = x.path <;> simp [c]
theorem cntD_step {V : List It} {x y : It} {k : Nat} (h : V[k]? = some y) (hk : 0 < k) : cntD V x (k + 1) = cntD V x k + if (upP y.path).1 = x.path ∧ y.st.kind = 2 then 1 else 0 := by
  unfold cntD
  rw [take_drop1 h hk, List.countP_append]
  by_cases c : (upP y.path).1 = x.path <;> by_cases c2 : y.st.kind = 2 <;> simp [c, c2]
theorem cnt_one (V : List It) (x : It) : cntN V x 1 = 0 ∧ cntD V x 1 = 0 ∧ cntN V x 0 = 0 ∧ cntD V x 0 = 0 ∧ cntP V x 0 = 0 := by
  unfold cntN cntD cntP
  have : (V.take 1).drop 1 = [] := List.drop_of_length_le (List.length_take_le ..)
  rw [this]
  simp
theorem cnt_le (V : List It) (x : It) (k : Nat) : cntP V x k ≤ k ∧ cntN V x k ≤ k ∧ cntD V x k ≤ k := by
  refine ⟨Nat.le_trans List.countP_le_length (List.length_take_le ..), Nat.le_trans List.countP_le_length ?_, Nat.le_trans List.countP_le_length ?_⟩
  · rw [List.length_drop, List.length_take]; omega
  · rw [List.length_drop, List.length_take]; omega

end Go.Proofs.YtppdihpobokfnaaGreatDoor
