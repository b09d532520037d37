/- Plain: what a descriptor's file holds stays, whatever becomes of names and other descriptors. No function in sight. -/
import Derived.Test.YtppdihpobokfnaaGreatDoorGPlain
set_option linter.unusedVariables false
set_option linter.unusedSimpArgs false
namespace Go.Proofs.YtppdihpobokfnaaGreatDoor
open Go Go.RowKit

theorem look_at_set {m : Md} {k : Nat} {f : Nd → Nd} {d : Nd} (h : lookK m.nodes k = some d) : lookK (m.set k f).nodes k = some (f d) := lookK_same h
theorem look_at_set2 {m : Md} {j k : Nat} {f : Nd → Nd} {d : Nd} (hj : j = k) (h : lookK m.nodes j = some d) : lookK (m.set k f).nodes j = some (f d) := by subst hj; exact look_at_set h
theorem look_by_set {m : Md} {j k : Nat} {f : Nd → Nd} {d : Nd} (hj : j ≠ k) (h : lookK m.nodes j = some d) : lookK (m.set k f).nodes j = some d := (lookK_other hj).trans h
/-- a descriptor is its file's only one; the file's bytes -/
structure Kept (fd k0 : Nat) (bs : Bs) (m : Md) : Prop where
  slot : ∃ a, m.tab[fd]? = some ⟨true, (k0 : Int), a⟩
  lone : ∀ j s, j ≠ fd → m.tab[j]? = some s → s.o = true → s.n ≠ (k0 : Int)
  node : ∃ d, lookK m.nodes k0 = some d ∧ d.data = bs

section
variable {fd k0 : Nat} {bs : Bs} {m : Md}
theorem Kept.set (h : Kept fd k0 bs m) {k : Nat} {f : Nd → Nd} (hf : k ≠ k0 ∨ ∀ d, (f d).data = d.data) : Kept fd k0 bs (m.set k f) := by
  obtain ⟨d, h1, h2⟩ := h.node
  refine ⟨h.slot, h.lone, ?_⟩
  by_cases c : k0 = k
  · subst c
    rcases hf with hf | hf
    · exact absurd rfl hf
    · exact ⟨f d, lookK_same h1, by rw [hf, h2]⟩
  · exact ⟨d, (lookK_other c).trans h1, h2⟩
theorem Kept.has (h : Kept fd k0 bs m) : tHas m.tab (k0 : Int) = true := by
  obtain ⟨a, ha⟩ := h.slot
  exact List.any_eq_true.2 ⟨_, List.mem_of_getElem? ha, by simp [hasP]⟩
theorem Kept.gone (h : Kept fd k0 bs m) (k : Nat) : Kept fd k0 bs (goneP m k) := by
  unfold goneP
  split
  · rename_i c
    have hk : k0 ≠ k := fun e => by
      have h2 := h.has
      rw [e, c.2] at h2
      cases h2
    obtain ⟨d, h1, h2⟩ := h.node
    refine ⟨h.slot, h.lone, d, ?_, h2⟩
    show lookK (m.nodes.filter fun p => !(p.1 == k)) k0 = some d
    rw [lookK_filter, if_neg hk]
    exact h1
  · exact h
theorem Kept.links (h : Kept fd k0 bs m) (k : Nat) (d : Int) : Kept fd k0 bs (linksP m k d) := h.set (.inr fun _ => rfl)
theorem Kept.unname (h : Kept fd k0 bs m) (k : Nat) (s : Bs) : Kept fd k0 bs (unnameP m k s) := h.set (.inr fun _ => rfl)
theorem Kept.link (h : Kept fd k0 bs m) (k : Nat) (s : Bs) (j : Nat) : Kept fd k0 bs (linkP m k s j) := h.set (.inr fun _ => rfl)
theorem Kept.drop (h : Kept fd k0 bs m) (a : Pl) : Kept fd k0 bs (dropP m a) := by
  unfold dropP
  simp only
  split
  · exact Kept.gone (Kept.links (Kept.set (f := fun n => { n with links := 0 }) ((h.unname a.dir a.name).links a.node.toNat (-1)) (.inr fun _ => rfl)) a.dir (-1)) a.node.toNat
  · exact Kept.gone ((h.unname _ _).links _ _) _
theorem Kept.move (h : Kept fd k0 bs m) (a b : Pl) : Kept fd k0 bs (moveP m a b) := by
  have h0 : Kept fd k0 bs (if 0 ≤ b.node then dropP m b else m) := by
    split
    · exact h.drop b
    · exact h
  unfold moveP
  simp only
  generalize (if 0 ≤ b.node then dropP m b else m) = m0 at *
  have h1 := (h0.unname a.dir a.name).link b.dir b.name a.node.toNat
  split
  · exact Kept.set ((h1.links _ _).links _ _) (.inr fun _ => rfl)
  · exact Kept.set h1 (.inr fun _ => rfl)
theorem Kept.fresh (h : Kept fd k0 bs m) (a : Pl) (kind : Int) : Kept fd k0 bs (freshP m a kind).2 := by
  unfold freshP
  split
  · exact h
  · refine Kept.set ?_ (.inr fun _ => rfl)
    obtain ⟨d, h1, h2⟩ := h.node
    refine ⟨h.slot, h.lone, d, ?_, h2⟩
    show lookK (m.nodes ++ [(m.next, freshN kind a.dir)]) k0 = some d
    rw [lookK_append, h1]
theorem Kept.tabs (h : Kept fd k0 bs m) {j : Nat} {s : Sl} (hj : j ≠ fd) (hs : s.o = true → s.n ≠ (k0 : Int)) : Kept fd k0 bs { m with tab := m.tab.set j s } := by
  refine ⟨?_, fun i t hi ht ho => ?_, h.node⟩
  · obtain ⟨a, ha⟩ := h.slot
    exact ⟨a, (List.getElem?_set_ne hj).trans ha⟩
  · have ht' : (m.tab.set j s)[i]? = some t := ht
    by_cases c : j = i
    · subst c
      rw [List.getElem?_set] at ht'
      split at ht'
      · split at ht'
        · cases ht'; exact hs ho
        · cases ht'
      · rename_i q; exact absurd rfl q
    · rw [List.getElem?_set_ne c] at ht'
      exact h.lone i t hi ht' ho
/-- an offset is set -/
theorem Kept.seek (h : Kept fd k0 bs m) (g z : Int) : Kept fd k0 bs { m with tab := (tSeek m.tab g z).1 } := by
  unfold tSeek
  cases hs : slotOf m.tab g with
  | none => exact h
  | some s =>
    simp only
    split
    · exact h
    · obtain ⟨g0, g1, g2, g3⟩ := slotOf_some hs
      by_cases c : g.toNat = fd
      · refine ⟨?_, fun i t hi ht ho => ?_, h.node⟩
        · obtain ⟨a, ha⟩ := h.slot
          rw [c, ha] at g2
          cases g2
          refine ⟨z, ?_⟩
          show (m.tab.set g.toNat _)[fd]? = _
          rw [c, List.getElem?_set_self (List.getElem?_eq_some_iff.1 ha).1]
        · have ht' : (m.tab.set g.toNat ⟨s.o, s.n, z⟩)[i]? = some t := ht
          rw [List.getElem?_set_ne (by rw [c]; exact fun e => hi e.symm)] at ht'
          exact h.lone i t hi ht' ho
      · exact h.tabs c fun ho => h.lone _ s c g2 g3
theorem Kept.slotNe (h : Kept fd k0 bs m) {g : Int} {s : Sl} (hg : g ≠ (fd : Int)) (hs : slotOf m.tab g = some s) : s.n ≠ (k0 : Int) ∧ g.toNat ≠ fd := by
  obtain ⟨g0, g1, g2, g3⟩ := slotOf_some hs
  have : g.toNat ≠ fd := by omega
  exact ⟨h.lone _ s this g2 g3, this⟩
theorem Kept.nodeNe (hI : ∃ N X, Inv N X m) (h : Kept fd k0 bs m) {g : Int} {s : Sl} (hg : g ≠ (fd : Int)) (hs : slotOf m.tab g = some s) : s.n.toNat ≠ k0 := by
  obtain ⟨N, X, hI⟩ := hI
  obtain ⟨_, _, k, d, hk, _⟩ := hI.tab g s hs
  have := (h.slotNe hg hs).1
  rw [hk] at this ⊢
  rw [Int.toNat_natCast]
  omega

/-- ANY CALL that neither opens, nor closes, writes or resizes through the descriptor -/
theorem Kept.doP {N : Nat} {X : Nat → Prop} (hI : Inv N X m) (h : Kept fd k0 bs m) (c : Cl) (h1 : c.k ≠ 1) (h2 : ¬ (c.fd = (fd : Int) ∧ (c.k = 2 ∨ c.k = 4 ∨ c.k = 6))) : Kept fd k0 bs (Go.Proofs.YtppdihpobokfnaaGreatDoor.doP m c).2 := by
  have hI' : ∃ N X, Inv N X m := ⟨N, X, hI⟩
  unfold Go.Proofs.YtppdihpobokfnaaGreatDoor.doP
  split
  · rename_i e; exact absurd e h1
  · rename_i e
    have hg : c.fd ≠ (fd : Int) := fun q => h2 ⟨q, .inl e⟩
    have hc : Kept fd k0 bs { m with tab := (tClose m.tab c.fd).1 } := by
      unfold tClose
      cases hs : slotOf m.tab c.fd with
      | none => exact h
      | some s => exact h.tabs (h.slotNe hg hs).2 fun ho => by cases ho
    unfold closeP
    simp only
    split
    · exact hc.gone _
    · exact hc
  · unfold readP
    split
    · exact h
    · split
      · exact h
      · exact h.seek _ _
  · rename_i e
    have hg : c.fd ≠ (fd : Int) := fun q => h2 ⟨q, .inr (.inl e)⟩
    unfold putP
    cases hs : slotOf m.tab c.fd with
    | none => exact h
    | some s =>
      simp only
      split
      · exact h
      split
      · exact h
      split
      · exact h
      · exact Kept.seek (Kept.set h (.inl (Kept.nodeNe hI' h hg hs))) _ _
  · unfold seekP
    split
    · exact h
    · exact h.seek _ _
  · rename_i e
    have hg : c.fd ≠ (fd : Int) := fun q => h2 ⟨q, .inr (.inr e)⟩
    unfold resizeP
    cases hs : slotOf m.tab c.fd with
    | none => exact h
    | some s =>
      simp only
      split
      · exact h
      split
      · exact h
      · exact Kept.set h (.inl (Kept.nodeNe hI' h hg hs))
  · unfold mkdirP
    simp only
    split
    · exact h
    split
    · exact h
    split
    · exact h
    split
    · exact h
    · exact (h.fresh _ _).links _ _
  · unfold rmdirP
    simp only
    split
    · exact h
    split
    · exact h
    split
    · exact h
    · exact h.drop _
  · unfold lnkP
    simp only
    split
    · exact h
    split
    · exact h
    split
    · exact h
    split
    · exact h
    split
    · exact h
    · exact (h.link _ _ _).links _ _
  · unfold unlinkP
    simp only
    split
    · exact h
    split
    · exact h
    · exact h.drop _
  · unfold renameP
    simp only
    split
    · exact h
    split
    · exact h
    split
    · exact h
    split
    · exact h
    · exact h.move _ _
  · exact h
  · exact h
  · exact h
  · unfold pinP
    simp only
    split
    · exact h
    · exact h.set (.inr fun _ => rfl)
  · exact h
  · exact h
  · exact h
  · exact h
  · exact h
  · exact h

theorem Kept.slotOf' (h : Kept fd k0 bs m) (h16 : fd < 16) : ∃ a, slotOf m.tab (fd : Int) = some ⟨true, (k0 : Int), a⟩ := by
  obtain ⟨a, ha⟩ := h.slot
  refine ⟨a, ?_⟩
  unfold slotOf
  rw [if_pos (by omega), Int.toNat_natCast, ha]
  rfl
/-- what is read from the start -/
theorem Kept.back (h : Kept fd k0 bs m) (h16 : fd < 16) (hb : bs.length ≤ 1024) (c c' : Cl) (e1 : c.k = 5 ∧ c.fd = (fd : Int) ∧ c.n = 0) (e2 : c'.k = 3 ∧ c'.fd = (fd : Int) ∧ c'.n = 1024) :
    (Go.Proofs.YtppdihpobokfnaaGreatDoor.doP (Go.Proofs.YtppdihpobokfnaaGreatDoor.doP m c).2 c').1.e = 0 ∧ (Go.Proofs.YtppdihpobokfnaaGreatDoor.doP (Go.Proofs.YtppdihpobokfnaaGreatDoor.doP m c).2 c').1.d = bs := by
  obtain ⟨a, ha⟩ := h.slotOf' h16
  obtain ⟨d, h1, h2⟩ := h.node
  have hfd : (fd : Int).toNat = fd := Int.toNat_natCast fd
  have s1 : (Go.Proofs.YtppdihpobokfnaaGreatDoor.doP m c).2 = { m with tab := m.tab.set fd ⟨true, (k0 : Int), 0⟩ } := by
    have : Go.Proofs.YtppdihpobokfnaaGreatDoor.doP m c = seekP m c := by unfold Go.Proofs.YtppdihpobokfnaaGreatDoor.doP; rw [e1.1]; rfl
    rw [this]
    unfold seekP
    rw [e1.2.1, e1.2.2]
    have ts : tSeek m.tab (fd : Int) 0 = (m.tab.set fd ⟨true, (k0 : Int), 0⟩, 0) := by
      unfold tSeek
      rw [ha]
      simp only
      rw [if_neg (by omega), hfd]
    rw [ts]
    simp
  have hl : fd < m.tab.length := by
    obtain ⟨a, ha⟩ := h.slot
    exact (List.getElem?_eq_some_iff.1 ha).1
  have s2 : slotOf (m.tab.set fd ⟨true, (k0 : Int), 0⟩) (fd : Int) = some ⟨true, (k0 : Int), 0⟩ := by
    unfold slotOf
    rw [if_pos (by omega), hfd, List.getElem?_set_self hl]
    rfl
  have s3 : Go.Proofs.YtppdihpobokfnaaGreatDoor.doP (Go.Proofs.YtppdihpobokfnaaGreatDoor.doP m c).2 c' = readP (Go.Proofs.YtppdihpobokfnaaGreatDoor.doP m c).2 c' := by
    generalize (Go.Proofs.YtppdihpobokfnaaGreatDoor.doP m c).2 = q
    unfold Go.Proofs.YtppdihpobokfnaaGreatDoor.doP
    rw [e2.1]; rfl
  rw [s3, s1]
  unfold readP
  simp only [e2.2.1, e2.2.2, s2]
  rw [if_neg (by omega)]
  have hg : ({ m with tab := m.tab.set fd ⟨true, (k0 : Int), 0⟩ } : Md).get k0 = d := Md.get_look h1
  simp only [Int.toNat_natCast, hg, h2]
  refine ⟨rfl, ?_⟩
  show ((bs.drop 0).take 1024 : Bs) = bs
  rw [List.drop_zero, List.take_of_length_le hb]
end

/-- a new file, opened -/
theorem openP_new {N : Nat} {X : Nat → Prop} {m : Md} (hI : Inv N X m) (c : Cl) (hk : c.k = 1) (hn : c.n = 3) (he : (doP m c).1.e = 0) :
    ∃ fd k0 : Nat, fd < 16 ∧ (doP m c).1.n = (fd : Int) ∧ Kept fd k0 [] (doP m c).2 ∧ slotOf (doP m c).2.tab (fd : Int) = some ⟨true, (k0 : Int), 0⟩ := by
  have hd : doP m c = openP m c := by unfold doP; rw [hk]; rfl
  rw [hd] at he ⊢
  unfold openP at he ⊢
  rw [hn] at he ⊢
  rw [if_neg (by omega)] at he ⊢
  by_cases c1 : (splitP (bts c.p)).2 ≠ 0
  · rw [if_pos c1] at he; exact absurd he c1
  rw [if_neg c1] at he ⊢
  by_cases c2 : tFull m.tab = true
  · rw [if_pos c2] at he; simp [failA] at he
  rw [if_neg c2] at he ⊢
  by_cases c3 : (walkFrom m 0 (splitP (bts c.p)).1).2 ≠ 0
  rotate_left
  · rw [if_neg c3, if_pos (by decide)] at he; simp [failA] at he
  rw [if_pos c3] at he ⊢
  simp only at he ⊢
  generalize missingP m c (walkFrom m 0 (splitP (bts c.p)).1).2 = A at *
  by_cases c4 : A.2 ≠ 0
  · rw [if_pos c4] at he; exact absurd he c4
  rw [if_neg c4] at he ⊢
  unfold freshP at he ⊢
  by_cases c5 : m.limit ≤ m.nodes.length
  · rw [if_pos c5, if_pos (by simp)] at he; simp [failA] at he
  rw [if_neg c5] at he ⊢
  simp only at he ⊢
  rw [if_neg (by simp)] at he ⊢
  have hfr : lookK m.nodes m.next = none := lookK_fresh hI.lt
  -- the new node
  have hnew : ∃ dn, lookK (({ m with next := m.next + 1, nodes := m.nodes ++ [(m.next, freshN 1 A.1.dir)] } : Md).set A.1.dir fun n => { n with names := putN n.names A.1.name m.next }).nodes m.next = some dn ∧ dn.data = [] ∧ dn.kind = 1 := by
    have h0 : lookK (m.nodes ++ [(m.next, freshN 1 A.1.dir)]) m.next = some (freshN 1 A.1.dir) := by
      rw [lookK_append, hfr, if_pos rfl]
    by_cases q : m.next = A.1.dir
    · exact ⟨_, look_at_set2 q h0, rfl, rfl⟩
    · exact ⟨_, look_by_set q h0, rfl, rfl⟩
  have htab : (({ m with next := m.next + 1, nodes := m.nodes ++ [(m.next, freshN 1 A.1.dir)] } : Md).set A.1.dir fun n => { n with names := putN n.names A.1.name m.next }).tab = m.tab := rfl
  generalize (({ m with next := m.next + 1, nodes := m.nodes ++ [(m.next, freshN 1 A.1.dir)] } : Md).set A.1.dir fun n => { n with names := putN n.names A.1.name m.next }) = m1 at *
  obtain ⟨dn, hn1, hn2, hn3⟩ := hnew
  unfold openAt at he ⊢
  rw [Md.get_look hn1, if_neg (by rw [hn3]; decide)] at he ⊢
  rw [hn, if_neg (by decide)] at he ⊢
  simp only at he ⊢
  rw [htab] at he ⊢
  unfold tOpen at he ⊢
  rw [if_neg (by omega)] at he ⊢
  cases hf : firstFree m.tab with
  | none => rw [hf] at he; simp at he
  | some fd =>
    obtain ⟨hlt, ⟨s, hs, hso⟩, _⟩ := free_some hf
    have h16 := hI.tab16
    refine ⟨fd, m.next, by omega, rfl, ⟨⟨0, ?_⟩, fun j t hj ht ho => ?_, dn, hn1, hn2⟩, ?_⟩
    · exact List.getElem?_set_self hlt
    · have ht' : (m.tab.set fd ⟨true, (m.next : Int), 0⟩)[j]? = some t := ht
      rw [List.getElem?_set_ne (fun e => hj e.symm)] at ht'
      have hjl := (List.getElem?_eq_some_iff.1 ht').1
      have hsl : slotOf m.tab (j : Int) = some t := by
        unfold slotOf
        rw [if_pos (by omega), Int.toNat_natCast, ht']
        simp [Option.filter, ho]
      obtain ⟨_, _, k, d, hk2, hk3, _⟩ := hI.tab (j : Int) t hsl
      rw [hk2]
      intro e
      have : k = m.next := by omega
      rw [this, hfr] at hk3
      cases hk3
    · show slotOf (m.tab.set fd ⟨true, (m.next : Int), 0⟩) (fd : Int) = _
      unfold slotOf
      rw [if_pos (by omega), Int.toNat_natCast, List.getElem?_set_self hlt]
      rfl
/-- what is written first -/
theorem putP_new {fd k0 : Nat} {m : Md} (h : Kept fd k0 [] m) (h16 : fd < 16) (hs : slotOf m.tab (fd : Int) = some ⟨true, (k0 : Int), 0⟩) (c : Cl) (hk : c.k = 4) (hf : c.fd = (fd : Int)) (hd : c.d.size ≤ 1024) :
    (doP m c).1.e = 0 ∧ (doP m c).1.n = (c.d.size : Int) ∧ Kept fd k0 (bts c.d) (doP m c).2 := by
  have hp : doP m c = putP m c c.d.size := by unfold doP; rw [hk]; rfl
  rw [hp]
  unfold putP
  rw [hf, hs]
  simp only
  rw [if_neg (by omega), if_neg (by omega)]
  by_cases c0 : c.d.size = 0
  · rw [if_pos c0]
    have : bts c.d = [] := List.eq_nil_of_length_eq_zero (by rw [bts_length, c0])
    rw [this, c0]
    exact ⟨rfl, rfl, h⟩
  · rw [if_neg c0]
    refine ⟨rfl, rfl, Kept.seek (m := m.set (k0 : Int).toNat _) ?_ _ _⟩
    obtain ⟨d, h1, h2⟩ := h.node
    rw [Int.toNat_natCast]
    refine ⟨h.slot, h.lone, _, look_at_set h1, ?_⟩
    · show overB (growB d.data _) _ _ = _
      rw [h2]
      have hl := bts_length c.d
      unfold overB growB
      have e0 : (0 : Int).toNat = 0 := rfl
      rw [e0, List.nil_append, List.take_zero, List.nil_append, List.take_of_length_le (by omega), List.drop_of_length_le (by simp [hl]), List.append_nil]

end Go.Proofs.YtppdihpobokfnaaGreatDoor
