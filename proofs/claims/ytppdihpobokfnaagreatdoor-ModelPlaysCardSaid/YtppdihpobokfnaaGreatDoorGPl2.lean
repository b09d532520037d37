/- A part of a proof. -/
import Derived.Test.YtppdihpobokfnaaGreatDoorGPlain
set_option linter.unusedVariables false
set_option linter.unusedSimpArgs false
namespace Go.Proofs.YtppdihpobokfnaaGreatDoor
open Go Go.RowKit
section
variable {m m1 : Md} {c : Cl} {k : Nat} {r : An × Md}
theorem free_full {l : List Sl} (h : firstFree l = none) : tFull l = true := by
 unfold firstFree at h
 rw [List.findIdx?_eq_none_iff] at h
 unfold tFull
 rw [List.all_eq_true]
 intro s hs
 have := h s hs
 simpa using this
theorem openAt_dir (h2 : (m.get k).kind = 2) : openAt m c k = (failA 213, m) := by
 unfold openAt
 rw [if_pos h2]
theorem fresh_tab {a : Pl} {kind : Int} : (freshP m a kind).2.tab = m.tab := by
 unfold freshP
 split <;> rfl
end
end Go.Proofs.YtppdihpobokfnaaGreatDoor
set_option linter.unusedVariables false
set_option linter.unusedSimpArgs false
namespace Go.Proofs.YtppdihpobokfnaaGreatDoor
open Go Go.RowKit
section
variable {N : Nat} {X : Nat → Prop} {m m1 : Md} {a b d j k t : Nat} {x dd : Nd} {s : Bs} {ps qs : List Bs} {p : Bs}
theorem get_kind2 (h : (m.get k).kind = 2) : ∃ d, lookK m.nodes k = some d ∧ d.kind = 2 := by
 cases hk : lookK m.nodes k with
 | none =>
  rw [Md.get, hk] at h
  exact absurd h (by decide)
 | some d =>
  rw [Md.get_look hk] at h
  exact ⟨d, rfl, h⟩
theorem step_name (hj : lookK m.nodes j = some x) (h2 : x.kind = 2) (hs : s ≠ [46] ∧ s ≠ [46, 46]) : stepP m j s = match lookN x.names s with | some k => (k, 0) | none => (0, 210) := by
 unfold stepP
 rw [Md.get_look hj, if_neg (by simpa using h2), if_neg hs.1, if_neg hs.2]
 cases lookN x.names s <;> rfl
theorem walk_cons (h : (stepP m j s).2 = 0) : walkFrom m j (s :: ps) = walkFrom m (stepP m j s).1 ps := by
 rw [walkFrom, if_neg (by simpa using h)]
end
end Go.Proofs.YtppdihpobokfnaaGreatDoor
set_option linter.unusedVariables false
set_option linter.unusedSimpArgs false
namespace Go.Proofs.YtppdihpobokfnaaGreatDoor
open Go Go.RowKit
def L100 (m : Md) : Prop := ∀ k d, lookK m.nodes k = some d → d.links ≤ 100
def Alike (m m' : Md) : Prop := m'.nodes.length = m.nodes.length ∧ ∀ k, (m'.get k).kind = (m.get k).kind ∧ (m'.get k).links = (m.get k).links ∧ (m'.get k).pin = (m.get k).pin ∧ (m'.get k).data = (m.get k).data ∧ (m'.get k).names = (m.get k).names
theorem Alike.seen {m m' : Md} (h : Alike m m') : ∀ (f k : Nat) (p : Bs), seenP m' f k p = seenP m f k p
 | 0, _, _ => rfl
 | f + 1, k, p => by
  rw [seenP, seenP, (h.2 k).2.2.2.2]
  congr 1
  rw [List.flatMap_def, List.flatMap_def]
  congr 1
  exact List.map_congr_left fun y _ => h.seen f _ _
section
variable {N : Nat} {X : Nat → Prop} {m m1 : Md} {j k t : Nat} {d x dd : Nd} {s : Bs} {ps qs : List Bs} {p : Bs}
end
end Go.Proofs.YtppdihpobokfnaaGreatDoor
set_option linter.unusedVariables false
set_option linter.unusedSimpArgs false
namespace Go.Proofs.YtppdihpobokfnaaGreatDoor
open Go Go.RowKit
section
variable {N : Nat} {X : Nat → Prop} {m : Md} {j k : Nat} {d x dd : Nd} {s : Bs}
theorem L100.set (h : L100 m) {f : Nd → Nd} (hf : ∀ d, lookK m.nodes k = some d → d.links ≤ 100 → (f d).links ≤ 100) : L100 (m.set k f) := fun j x hj => by
 have h2 : lookK (setK m.nodes k f) j = some x := hj
 rw [lookK_setK] at h2
 clear hj
 split at h2
 · rename_i q
   subst q
   cases hy : lookK m.nodes j with
   | none => rw [hy] at h2; cases h2
   | some y =>
    rw [hy] at h2
    cases h2
    exact hf y hy (h _ y hy)
 · exact h j x h2
theorem L100.gone (h : L100 m) (k : Nat) : L100 (goneP m k) := by
 unfold goneP
 split
 · intro j x hj
   have hj : lookK (m.nodes.filter fun p => !(p.1 == k)) j = some x := hj
   rw [lookK_filter] at hj
   split at hj
   · cases hj
   · exact h j x hj
 · exact h
theorem L100.tab (h : L100 m) (T : List Sl) : L100 { m with tab := T } := h
theorem L100.fresh (h : L100 m) (a : Pl) (kind : Int) : L100 (freshP m a kind).2 := by
 unfold freshP
 split
 · exact h
 · refine L100.set ?_ (fun d _ q => q)
   intro j x hj
   have hj : lookK (m.nodes ++ [(m.next, freshN kind a.dir)]) j = some x := hj
   rw [lookK_append] at hj
   cases hl : lookK m.nodes j with
   | some y => rw [hl] at hj; cases hj; exact h j _ hl
   | none =>
    rw [hl] at hj
    simp only [] at hj
    split at hj
    · cases hj
      unfold freshN
      simp only []
      split <;> omega
    · cases hj
theorem L100.unname (h : L100 m) (k : Nat) (s : Bs) : L100 (unnameP m k s) := h.set (fun _ _ q => q)
theorem L100.link (h : L100 m) (k : Nat) (s : Bs) (j : Nat) : L100 (linkP m k s j) := h.set (fun _ _ q => q)
theorem L100.less (h : L100 m) (k : Nat) : L100 (linksP m k (-1)) := h.set (fun d _ q => by show d.links + -1 ≤ 100; omega)
theorem L100.up (h : L100 m) (hk : ∀ d, lookK m.nodes k = some d → d.links < 100) : L100 (linksP m k 1) := h.set (fun d hd _ => by
 have := hk d hd
 show d.links + 1 ≤ 100
 omega)
theorem L100.drop (h : L100 m) (a : Pl) : L100 (dropP m a) := by
 unfold dropP
 simp only
 split
 · exact L100.gone (L100.less (L100.set (f := fun n => { n with links := 0 }) ((h.unname a.dir a.name).less a.node.toNat) (fun _ _ _ => by show (0 : Int) ≤ 100; omega)) a.dir) a.node.toNat
 · exact L100.gone ((h.unname _ _).less _) _
theorem L100.move (h : L100 m) (hI : Inv N X m) {a b : Pl} {da db : Nd} (ha : lookK m.nodes a.dir = some da) (hak : a.node = (k : Int)) (hk : lookK m.nodes k = some d) (hb : lookK m.nodes b.dir = some db) (hbn : b.node = nodeAt (lookN db.names b.name)) (hmay : mayP m a b = 0) : L100 (moveP m a b) := by
 rw [moveP_eq, hak, Int.toNat_natCast]
 have h0 : L100 (if 0 ≤ b.node then dropP m b else m) := by
  split
  · exact h.drop b
  · exact h
 -- links at the place
 have hup : d.kind = 2 → a.dir ≠ b.dir → ∀ y, lookK (if 0 ≤ b.node then dropP m b else m).nodes b.dir = some y → y.links < 100 := by
  intro q hne y hy
  unfold mayP at hmay
  simp only [hak, Int.toNat_natCast, Md.get_look hk, Md.get_look hb] at hmay
  by_cases c1 : ((d.kind == 2) = true ∧ belowP m k m.nodes.length b.dir = true)
  · rw [if_pos c1] at hmay; omega
  rw [if_neg c1] at hmay
  by_cases c2 : b.node < 0
  · rw [if_pos c2] at hmay
    rw [if_neg (by omega), hb] at hy
    cases hy
    by_cases c3 : 100 ≤ db.links
    · rw [if_pos ⟨by simpa using q, hne, c3⟩] at hmay; omega
    · omega
  · rw [if_neg c2] at hmay
    rw [if_pos (by omega)] at hy
    obtain ⟨kb, e1, e2⟩ := nodeAt_some (o := lookN db.names b.name) (by rw [← hbn]; omega)
    rw [e2] at hbn
    obtain ⟨hz, x, hx, hpx⟩ := hI.there _ (hI.mem_look hb e1)
    simp only [] at hz hx hpx
    simp only [hbn, Int.toNat_natCast, Md.get_look hx] at hmay
    have hx2 : x.kind = 2 := by
     by_cases q2 : x.kind = 2
     · exact q2
     · rw [if_pos ⟨by simpa using q, q2⟩] at hmay; omega
    obtain ⟨dep, hdep⟩ := hI.tree
    have hne2 : kb ≠ b.dir := fun e => by
     have h1 := hdep kb x hx hx2 hz
     rw [hpx hx2, e] at h1
     omega
    rw [drop_look hbn hne2 (fun e => hne2 e.symm), hb] at hy
    simp only [Option.map_some, Option.some.injEq] at hy
    rw [← hy]
    show db.links + (if (m.get kb).kind = 2 ∧ True then -1 else 0) < 100
    rw [if_pos ⟨by rw [Md.get_look hx]; exact hx2, trivial⟩]
    have := h _ _ hb
    omega
 have hkd : ∀ y, lookK (if 0 ≤ b.node then dropP m b else m).nodes k = some y → y.kind = d.kind := by
  intro y hy
  split at hy
  · obtain ⟨z, z1, z2, _⟩ := drop_kind hy
    rw [hk] at z1
    cases z1
    exact z2.symm
  · rw [hk] at hy
    cases hy
    rfl
 generalize (if 0 ≤ b.node then dropP m b else m) = m0 at *
 have h1 := (h0.unname a.dir a.name).link b.dir b.name k
 unfold moveQ
 simp only
 split
 · rename_i q
   refine L100.set ?_ (fun _ _ q => q)
   refine L100.up (h1.less a.dir) fun y hy => ?_
   obtain ⟨z, z1, z2⟩ := get_kind2 q
   have u1 := (Upd.set m0 a.dir fun n => { n with names := delN n.names a.name }).trans (Upd.set (unnameP m0 a.dir a.name) b.dir fun n => { n with names := putN n.names b.name k })
   have hdk : d.kind = 2 := by
    obtain ⟨y, y1, y2⟩ := u1.inv z1
    rw [← hkd y y1]
    rw [y2] at z2
    by_cases q1 : k = a.dir <;> by_cases q2 : k = b.dir <;> simp [q1, q2] at z2 <;> (try split at z2) <;> exact z2
   have u2 := u1.trans (Upd.set (linkP (unnameP m0 a.dir a.name) b.dir b.name k) a.dir fun n => { n with links := n.links + (-1) })
   obtain ⟨w, w1, w2⟩ := u2.inv hy
   by_cases c : a.dir = b.dir
   · have := h0 _ _ w1
     rw [w2]
     simp only [if_pos c.symm]
     simp [c]
     omega
   · have := hup hdk c w w1
     rw [w2]
     have c' : ¬ (b.dir = a.dir) := fun e => c e.symm
     simp only [if_neg c']
     simp
     exact this
 · exact L100.set h1 (fun _ _ q => q)
theorem L100.doP (h : L100 m) (hI : Inv N X m) (hG : Good m) (c : Cl) : L100 (Go.Proofs.YtppdihpobokfnaaGreatDoor.doP m c).2 := by
 unfold Go.Proofs.YtppdihpobokfnaaGreatDoor.doP
 split
 · unfold openP
   have hop : ∀ (mm : Md) (k : Nat), L100 mm → L100 (openAt mm c k).2 := fun mm k hm => by
    unfold openAt
    split
    · exact hm
    · simp only
      split
      · exact L100.set (m := mm) (k := k) (f := fun n => { n with data := [] }) hm (fun _ _ q => q)
      · exact hm
   split
   · exact h
   split
   · exact h
   split
   · exact h
   split
   · simp only
     split
     · exact h
     split
     · exact h
     · exact hop _ _ (h.fresh _ _)
   split
   · exact h
   · exact hop _ _ h
 · unfold closeP
   simp only
   split
   · exact L100.gone (L100.tab h _) _
   · exact h
 · unfold readP
   split
   · exact h
   · split <;> exact h
 · unfold putP
   split
   · exact h
   · split
     · exact h
     split
     · exact h
     split
     · exact h
     · refine L100.tab (m := m.set _ _) ?_ _
       exact L100.set h (fun _ _ q => q)
 · unfold seekP
   split <;> exact h
 · unfold resizeP
   split
   · exact h
   · split
     · exact h
     split
     · exact h
     · exact L100.set h (fun _ _ q => q)
 · unfold mkdirP
   simp only
   split
   · exact h
   split
   · exact h
   split
   · exact h
   rename_i c1 _ c3
   split
   · exact h
   rename_i c4
   obtain ⟨dd, h1, _⟩ := locateP_ok hG (show (locateP m (bts c.p)).2 = 0 by simpa using c1)
   rw [Md.get_look h1] at c3
   refine (h.fresh _ _).up fun y hy => ?_
   rw [freshP_dir (by simpa using c4) h1] at hy
   cases hy
   show dd.links < 100
   omega
 · unfold rmdirP
   simp only
   split
   · exact h
   split
   · exact h
   split
   · exact h
   · exact h.drop _
 · unfold lnkP
   simp only
   split
   · exact h
   rename_i c1
   split
   · exact h
   split
   · exact h
   split
   · exact h
   split
   · exact h
   rename_i c5
   obtain ⟨y, hy⟩ := findP_there hG (show (findP m (bts c.p)).2 = 0 by simpa using c1)
   rw [Md.get_look hy] at c5
   refine (h.link _ _ _).up fun z hz => ?_
   have hu := Upd.set m (locateP m (bts c.o)).1.dir fun n => { n with names := putN n.names (locateP m (bts c.o)).1.name (findP m (bts c.p)).1 }
   obtain ⟨w, w1, w2⟩ := hu.inv hz
   rw [hy] at w1
   cases w1
   rw [w2]
   by_cases q : (findP m (bts c.p)).1 = (locateP m (bts c.o)).1.dir
   · simp [q]; simpa using c5
   · simp [q]; simpa using c5
 · unfold unlinkP
   simp only
   split
   · exact h
   split
   · exact h
   · exact h.drop _
 · unfold renameP
   simp only
   split
   · exact h
   rename_i c1
   split
   · exact h
   rename_i c2
   split
   · exact h
   split
   · exact h
   rename_i c4
   obtain ⟨da, k, d, l1, l2, l3, l4, l5, l6⟩ := thereP_ok hG (show (thereP m (bts c.p)).2 = 0 by simpa using c1)
   obtain ⟨db, r1, r2, r3, r4⟩ := locateP_ok hG (show (locateP m (bts c.o)).2 = 0 by simpa using c2)
   exact h.move hI l1 l5 l6 r1 r4 (by simpa using c4)
 · exact h
 · exact h
 · exact h
 · unfold pinP
   simp only
   split
   · exact h
   · exact L100.set h (fun _ _ q => q)
 · exact h
 · exact h
 · exact h
 · exact h
 · exact h
 · exact h
theorem L100.new (n : Nat) : L100 (newP n) := fun k d hk => by
 have hk' : lookK [(0, (⟨2, 2, false, [], [], 0⟩ : Nd))] k = some d := hk
 rw [lookK_cons] at hk'
 split at hk'
 · cases hk'; show (2 : Int) ≤ 100; omega
 · cases hk'
end
theorem play_inv {n : Nat} (h1 : 1 ≤ n) (h2 : n ≤ 1000000) : ∀ l : List Cl, l.length ≤ 1000 → Inv l.length Nul (l.foldl (fun m c => (doP m c).2) (newP n)) ∧ L100 (l.foldl (fun m c => (doP m c).2) (newP n)) := by
 have key : ∀ l l' : List Cl, l.length + l'.length ≤ 1000 → Inv l.length Nul (l.foldl (fun m c => (doP m c).2) (newP n)) ∧ L100 (l.foldl (fun m c => (doP m c).2) (newP n)) → Inv (l.length + l'.length) Nul ((l ++ l').foldl (fun m c => (doP m c).2) (newP n)) ∧ L100 ((l ++ l').foldl (fun m c => (doP m c).2) (newP n)) := by
  intro l l'
  induction l' generalizing l with
  | nil => intro _ h; simpa using h
  | cons c l' ih =>
   intro hl h
   obtain ⟨i1, i2⟩ := h
   rw [List.length_cons] at hl ⊢
   have h2 := ih (l ++ [c]) (by rw [List.length_append, List.length_singleton]; omega) (by
    rw [List.foldl_append, List.length_append, List.length_singleton]
    exact ⟨i1.doP (by omega) c, i2.doP i1 (i1.good (by omega)) c⟩)
   rw [List.append_assoc, List.length_append, List.length_singleton] at h2
   have e : l.length + (l'.length + 1) = l.length + 1 + l'.length := by omega
   rw [e]
   exact h2
 intro l hl
 have := key [] l (by simpa using hl) ⟨Inv.new h1 h2, L100.new n⟩
 simpa using this
end Go.Proofs.YtppdihpobokfnaaGreatDoor
set_option linter.unusedVariables false
set_option linter.unusedSimpArgs false
namespace Go.Proofs.YtppdihpobokfnaaGreatDoor
open Go Go.RowKit
def lastU (p : Bs) : Nat → Nat
 | 0 => 0
 | i + 1 => if p[i]? = some 47 then i else lastU p i
def upP (p : Bs) : Bs × Bs := if lastU p p.length = 0 then ([47], p.drop 1) else (p.take (lastU p p.length), p.drop (lastU p p.length + 1))
def child (p s : Bs) : Bs := (if p = [47] then [] else p) ++ 47 :: s
def seenQ (m : Md) : Nat → Nat → Bs → List (Bs × En)
 | 0, _, _ => []
 | f + 1, k, path => (m.get k).names.flatMap fun x => (child path x.1, ⟨k, x.1, x.2⟩) :: seenQ m f x.2 (child path x.1)
theorem seenQ_P (m : Md) : ∀ (f k : Nat) (path : Bs), seenP m f k path = (path, k) :: (seenQ m f k path).map fun q => (q.1, q.2.node)
 | 0, k, path => rfl
 | f + 1, k, path => by
  rw [seenP, seenQ, List.map_flatMap]
  congr 1
  rw [List.flatMap_def, List.flatMap_def]
  congr 1
  refine List.map_congr_left fun y _ => ?_
  rw [List.map_cons]
  exact seenQ_P m f y.2 _
def allQ (m : Md) : List (Bs × En) := seenQ m m.nodes.length 0 [47]
theorem allQ_P (m : Md) : allP m = ([47], 0) :: (allQ m).map fun q => (q.1, q.2.node) := seenQ_P m _ _ _
section
variable {N : Nat} {X : Nat → Prop} {m : Md} {j k : Nat} {d x : Nd} {s p : Bs}
def Leads (m : Md) (z : Bs × Nat) : Prop := ∃ xs : List Bs, (∀ x ∈ xs, OkName x) ∧ z.1 = pathS xs ∧ walkFrom m 0 xs = (z.2, 0)
theorem flat_ne {xs : List Bs} (h : ∀ x ∈ xs, OkName x) : flat xs ≠ [47] := by
 cases xs with
 | nil => simp [flat]
 | cons x xs =>
  intro e
  have h1 := (nmOk_iff.1 (h x (by simp)).1).1
  have h2 : x = [] := by
   simp [flat] at e
   exact e.1
  rw [h2] at h1
  simp at h1
theorem leads_child (h : Inv N X m) (hl : Leads m (p, k)) (hk : lookK m.nodes k = some x) {y : Bs × Nat} (hy : y ∈ x.names) : Leads m (child p y.1, y.2) := by
 have he : (⟨k, y.1, y.2⟩ : En) ∈ entsOf m.nodes := h.mem.2 ⟨x, hk, hy⟩
 have hok := h.nm _ he
 simp only [] at hok
 obtain ⟨xs, h1, h2, h3⟩ := hl
 simp only [] at h2 h3
 refine ⟨xs ++ [y.1], fun z hz => ?_, ?_, ?_⟩
 · rcases List.mem_append.1 hz with hz | hz
   · exact h1 z hz
   · rw [List.mem_singleton.1 hz]; exact hok
 · simp only []
   have e1 : pathS (xs ++ [y.1]) = flat xs ++ 47 :: y.1 := by
    unfold pathS
    rw [if_neg (by simp), flat_append]
    simp [flat]
   rw [e1, child, h2]
   unfold pathS
   by_cases c : xs = []
   · rw [if_pos c, if_pos rfl, c]; rfl
   · rw [if_neg c, if_neg (flat_ne h1)]
 · simp only []
   obtain ⟨x', hx', h2'⟩ := h.isdir he
   simp only [] at hx'
   rw [hk] at hx'
   cases hx'
   rw [walkFrom_app (by rw [h3]), h3]
   simp only []
   have hst : stepP m k y.1 = (y.2, 0) := by rw [step_name hk h2' hok.2, lookN_of_mem (h.shape k x hk).2.1 hy]
   rw [walk_cons (by rw [hst]), hst]
   rfl
theorem leads_seen (h : Inv N X m) : ∀ (f k : Nat) (path : Bs), Leads m (path, k) → ∀ q ∈ seenQ m f k path, Leads m (q.1, q.2.node) ∧ q.2 ∈ entsOf m.nodes
 | 0, _, _, _, q, hq => by cases hq
 | f + 1, k, path, hl, q, hq => by
  rw [seenQ] at hq
  obtain ⟨y, hy, hq⟩ := List.mem_flatMap.1 hq
  cases hk : lookK m.nodes k with
  | none =>
   rw [Md.get, hk] at hy
   cases hy
  | some x =>
   rw [Md.get_look hk] at hy
   have hc := leads_child h hl hk hy
   rcases List.mem_cons.1 hq with rfl | hq
   · exact ⟨hc, h.mem.2 ⟨x, hk, hy⟩⟩
   · exact leads_seen h f y.2 _ hc q hq
theorem leads_root (m : Md) : Leads m ([47], 0) := ⟨[], (fun _ h => by cases h), rfl, rfl⟩
theorem count_dir : ∀ {l : List (Nat × Nd)}, Rise l → lookK l k = some d → (entsOf l).countP (fun e => e.dir == k) = d.names.length
 | [], _, h => by cases h
 | p :: l, hr, h => by
  have h0 : ∀ (k' : Nat) (ns : List (Bs × Nat)), (entD k' ns).countP (fun e => e.dir == k) = if k' = k then ns.length else 0 := fun k' ns => by
   unfold entD
   rw [List.countP_map]
   by_cases c : k' = k
   · rw [if_pos c, List.countP_eq_length.2]
     intro y _
     simp [c]
   · rw [if_neg c, List.countP_eq_zero]
     intro y _
     simp [c]
  have e1 : entsOf (p :: l) = entD p.1 p.2.names ++ entsOf l := by simp [entsOf]
  rw [e1, List.countP_append, h0]
  rw [lookK_cons] at h
  by_cases c : p.1 = k
  · rw [if_pos c] at h ⊢
    cases h
    have : (entsOf l).countP (fun e => e.dir == k) = 0 := by
     rw [List.countP_eq_zero]
     intro e he
     unfold entsOf at he
     obtain ⟨q, hq, he⟩ := List.mem_flatMap.1 he
     unfold entD at he
     obtain ⟨y, _, rfl⟩ := List.mem_map.1 he
     have := hr.head q hq
     simp
     omega
    omega
  · rw [if_neg c] at h ⊢
    rw [count_dir hr.tail h]
    omega
theorem all_there (h : Inv N X m) : ∀ z ∈ allP m, ∃ d, lookK m.nodes z.2 = some d := fun z hz => by
 rw [allQ_P] at hz
 rcases List.mem_cons.1 hz with rfl | hz
 · obtain ⟨d, h1, _⟩ := h.root
   exact ⟨d, h1⟩
 · obtain ⟨q, hq, rfl⟩ := List.mem_map.1 hz
   obtain ⟨_, d, h1, _⟩ := h.there _ (leads_seen h _ _ _ (leads_root m) q hq).2
   exact ⟨d, h1⟩
end
def cntP (V : List It) (x : It) (n : Nat) : Nat := (V.take n).countP fun y => y.node == x.node
def cntN (V : List It) (x : It) (n : Nat) : Nat := ((V.take n).drop 1).countP fun y => (upP y.path).1 == x.path
def cntD (V : List It) (x : It) (n : Nat) : Nat := ((V.take n).drop 1).countP fun y => (upP y.path).1 == x.path && y.st.kind == 2
def atP (V : List It) (p : Bs) : Int := match V.findIdx? (fun y => y.path == p) with | some i => (i : Int) | none => -1
structure WholeOk (V : List It) : Prop where
 head : ∃ x, V[0]? = some x ∧ x.path = [47] ∧ x.node = 0 ∧ x.st.kind = 2
 up : ∀ (k : Nat) y, 0 < k → V[k]? = some y → y.path ≠ [] ∧ (upP y.path).2 ≠ [] ∧ 0 ≤ atP V (upP y.path).1 ∧ atP V (upP y.path).1 < (k : Int)
 same : ∀ (i k : Nat) x y, V[i]? = some x → V[k]? = some y → y.node = x.node → y.st = x.st ∧ y.data = x.data
 count : ∀ (i : Nat) x, V[i]? = some x → (x.st.kind = 2 ∧ cntP V x V.length = 1 ∧ x.st.links = 2 + (cntD V x V.length : Int) ∧ x.st.size = (cntN V x V.length : Int) ∧ x.data = []) ∨ (x.st.kind = 1 ∧ (cntP V x V.length : Int) = x.st.links ∧ x.st.size = (x.data.length : Int) ∧ cntN V x V.length = 0)
section
variable {N : Nat} {X : Nat → Prop} {m : Md} {j k : Nat} {d x : Nd} {s p : Bs}
theorem nodup_len : ∀ {l : List Nat} {l' : List Nat}, l.Nodup → (∀ x ∈ l, x ∈ l') → l.length ≤ l'.length
 | [], _, _, _ => Nat.zero_le _
 | a :: l, l', hn, hs => by
  obtain ⟨h1, h2⟩ := List.nodup_cons.1 hn
  have ha := hs a (by simp)
  have := nodup_len (l := l) (l' := l'.erase a) h2 (fun x hx => by
   have hx' := hs x (List.mem_cons_of_mem _ hx)
   have hne : x ≠ a := fun e => h1 (e ▸ hx)
   exact (List.mem_erase_of_ne hne).2 hx')
  rw [List.length_erase_of_mem ha] at this
  have := List.length_pos_of_mem ha
  rw [List.length_cons]
  omega
end
end Go.Proofs.YtppdihpobokfnaaGreatDoor
set_option linter.unusedVariables false
set_option linter.unusedSimpArgs false
namespace Go.Proofs.YtppdihpobokfnaaGreatDoor
open Go Go.RowKit
end Go.Proofs.YtppdihpobokfnaaGreatDoor
set_option linter.unusedVariables false
set_option linter.unusedSimpArgs false
namespace Go.Proofs.YtppdihpobokfnaaGreatDoor
open Go Go.RowKit
section
variable {N : Nat} {X : Nat → Prop} {m : Md} {j k : Nat} {d x dd : Nd} {s : Bs}
end
end Go.Proofs.YtppdihpobokfnaaGreatDoor
