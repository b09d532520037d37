/- Walks: a clone of a model. -/
import Derived.Test.YtppdihpobokfnaaGreatDoorModW45
import Derived.Test.YtppdihpobokfnaaGreatDoorModMls
import Derived.Maps.RangeWalk
import Derived.Maps.Ext
import Derived.Deep.RegionHeld3
import Derived.Deep.RegionWith
import Derived.Deep.RegionLaw
import Derived.Deep.DeepCutAuto
set_option linter.unusedVariables false
set_option linter.unusedSimpArgs false
set_option maxRecDepth 100000
namespace Go.Proofs.YtppdihpobokfnaaGreatDoor
open Go.RowKit Go.Joins Go.Maps

/-! ### a map filled in any order -/
def insK {α : Type} (x : Nat × α) : List (Nat × α) → List (Nat × α)
  | [] => [x]
  | y :: r => if x.1 < y.1 then x :: y :: r else y :: insK x r
def insN (k : Nat) : List Nat → List Nat
  | [] => [k]
  | y :: r => if k < y then k :: y :: r else y :: insN k r
theorem insK_ids {α : Type} (x : Nat × α) : ∀ l : List (Nat × α), (insK x l).map (·.1) = insN x.1 (l.map (·.1))
  | [] => rfl
  | y :: r => by
    rw [insK, List.map_cons, insN]
    split
    · rfl
    · rw [List.map_cons, insK_ids x r]
theorem insK_len {α : Type} (x : Nat × α) : ∀ l : List (Nat × α), (insK x l).length = l.length + 1
  | [] => rfl
  | y :: r => by
    rw [insK]
    split
    · rfl
    · rw [List.length_cons, insK_len x r, List.length_cons]
theorem lookK_insK {α : Type} {k j : Nat} {g : α} : ∀ {l : List (Nat × α)}, (∀ p ∈ l, p.1 ≠ k) → lookK (insK (k, g) l) j = if j = k then some g else lookK l j
  | [], _ => by
    rw [insK, lookK_cons]
    by_cases c : k = j
    · rw [if_pos c, if_pos c.symm]
    · rw [if_neg c, if_neg (fun e => c e.symm)]
  | y :: r, h => by
    have hy := h y (by simp)
    rw [insK]
    split
    · rw [lookK_cons]
      by_cases c : k = j
      · rw [if_pos c, if_pos c.symm]
      · rw [if_neg c, if_neg (fun e => c e.symm)]
    · rw [lookK_cons, lookK_insK (fun p hp => h p (by simp [hp])), lookK_cons]
      by_cases c : j = k
      · subst c
        simp [hy]
      · rw [if_neg c, if_neg c]
theorem insN_filter {P P' : Nat → Bool} {k : Nat} (hk : P k = false) (hP : ∀ j, P' j = (P j || j == k)) : ∀ {I : List Nat}, I.Pairwise (· < ·) → k ∈ I → insN k (I.filter P) = I.filter P'
  | [], _, h => by simp at h
  | a :: I, hs, h => by
    rw [List.pairwise_cons] at hs
    by_cases c : a = k
    · subst c
      have h1 : P' a = true := by rw [hP]; simp
      rw [List.filter_cons_of_neg (by rw [hk]; simp), List.filter_cons_of_pos h1]
      have h2 : ∀ j ∈ I, P' j = P j := fun j hj => by
        have := hs.1 j hj
        rw [hP, show (j == a) = false by rw [beq_eq_false_iff_ne]; omega, Bool.or_false]
      rw [List.filter_congr h2]
      cases hf : I.filter P with
      | nil => rfl
      | cons b r =>
        have hb : b ∈ I := (List.mem_filter.1 (by rw [hf]; simp : b ∈ I.filter P)).1
        rw [insN, if_pos (hs.1 b hb)]
    · have hkI : k ∈ I := by rcases List.mem_cons.1 h with e | e; exact absurd e.symm c; exact e
      have hak := hs.1 k hkI
      have ha : P' a = P a := by rw [hP, show (a == k) = false by rw [beq_eq_false_iff_ne]; exact c, Bool.or_false]
      cases hPa : P a with
      | true =>
        rw [List.filter_cons_of_pos hPa, List.filter_cons_of_pos (by rw [ha, hPa]), insN, if_neg (by omega), insN_filter hk hP hs.2 hkI]
      | false =>
        rw [List.filter_cons_of_neg (by rw [hPa]; simp), List.filter_cons_of_neg (by rw [ha, hPa]; simp), insN_filter hk hP hs.2 hkI]
theorem layD_ins {k g : Nat} : ∀ (l : List (Nat × Nat)), (∀ p ∈ l, p.1 ≠ k) → (layD l).put (.int .i64 (k : Int)) (.held (ptrTo g)) = layD (insK (k, g) l) := fun l h => by
  show DataW.map (DataW.insert (.int .i64 (k : Int), .held (ptrTo g)) ((l.map fun p => (Lit.int .i64 (p.1 : Int), (DataW.held (ptrTo p.2) : DataW Value))).filter fun p => !p.1.sameKey (.int .i64 (k : Int)))) = _
  rw [List.filter_eq_self.2 (by
    intro p hp
    obtain ⟨q, hq, rfl⟩ := List.mem_map.1 hp
    have := h q hq
    rw [key_int, Bool.not_eq_true', beq_eq_false_iff_ne]
    exact this), layD]
  congr 1
  clear h
  induction l with
  | nil => rfl
  | cons q r ih =>
    rw [List.map_cons, DataW.insert, insK]
    by_cases c : k < q.1
    · rw [if_pos (by simp [Lit.before]; omega), if_pos c]; rfl
    · rw [if_neg (by simp [Lit.before]; omega), if_neg c, List.map_cons, ih]
theorem lookK_filt {α : Type} (q : Nat → Bool) {j : Nat} : ∀ l : List (Nat × α), lookK (l.filter fun p => q p.1) j = if q j = true then lookK l j else none
  | [] => by simp [lookK]
  | y :: r => by
    have ih := lookK_filt q (j := j) r
    rw [List.filter_cons]
    by_cases c : y.1 = j
    · subst c
      cases hq : q y.1 with
      | true => simp [lookK_cons]
      | false =>
        rw [hq] at ih
        simpa using ih
    · have e : lookK (y :: r) j = lookK r j := by rw [lookK_cons, if_neg c]
      rw [e]
      cases hq : q y.1 with
      | true => simp only [if_true]; rw [lookK_cons, if_neg c, ih]
      | false => simpa using ih
theorem lay_next {l : List (Nat × Nat)} {x : Int} {c : Value} (hat : ∀ zd, (layD l).atKey (.int .i64 x) zd = .held c) : ∃ k g : Nat, x = (k : Int) ∧ lookK l k = some g ∧ c = .pointer (some ⟨g, 0, none⟩) := by
  by_cases hx : 0 ≤ x
  · obtain ⟨k, rfl⟩ : ∃ k : Nat, x = (k : Int) := ⟨x.toNat, by omega⟩
    have h1 := hat (.lit (.int .i64 0))
    rw [layD_at] at h1
    cases hk : lookK l k with
    | none => rw [hk] at h1; cases h1
    | some g =>
      rw [hk] at h1
      cases h1
      exact ⟨k, g, rfl, hk, rfl⟩
  · exfalso
    have h1 := hat (.lit (.int .i64 0))
    have : (layD l).atKey (.int .i64 x) (.lit (.int .i64 0)) = .lit (.int .i64 0) := by
      simp only [layD, DataW.atKey]
      rw [List.find?_eq_none.2]
      intro p hp
      obtain ⟨q, _, rfl⟩ := List.mem_map.1 hp
      have h' : ¬ ((q.1 : Int) = x) := by omega
      simp [Lit.sameKey, h']
    rw [this] at h1
    cases h1

/-- what is done of the nodes, while they are gone through -/
def doneN (left : Lit → Bool) (k : Nat) : Bool := !left (.int .i64 (k : Int))
def partM (m : Md) (left : Lit → Bool) : Md := { m with nodes := m.nodes.filter fun p => doneN left p.1 }
theorem doneN_step (left : Lit → Bool) (k j : Nat) : doneN (fun z => left z && !z.sameKey (.int .i64 (k : Int))) j = (doneN left j || j == k) := by
  show (!(left (.int .i64 (j : Int)) && !(Lit.int .i64 (j : Int)).sameKey (.int .i64 (k : Int)))) = (!left (.int .i64 (j : Int)) || j == k)
  rw [key_int, Bool.not_and, Bool.not_not]
theorem part_all {m : Md} {left : Lit → Bool} (h : ∀ kl, left kl = false) : partM m left = m := by
  unfold partM
  rw [List.filter_eq_self.2 (fun p _ => by unfold doneN; rw [h]; rfl)]
theorem part_none {m : Md} {l : List (Nat × Nat)} (h : l.map (·.1) = m.nodes.map (·.1)) : (partM m (Maps.has (layD l))).nodes = [] := by
  show m.nodes.filter _ = []
  rw [List.filter_eq_nil_iff]
  intro p hp
  have h1 : p.1 ∈ l.map (·.1) := by rw [h]; exact List.mem_map.2 ⟨p, hp, rfl⟩
  obtain ⟨q, hq, e⟩ := List.mem_map.1 h1
  unfold doneN
  rw [layD_has]
  have : (lookK l p.1).isSome = true := by
    unfold lookK
    rw [Option.isSome_map, List.find?_isSome]
    exact ⟨q, hq, by rw [beq_iff_eq]; exact e⟩
  rw [this]; simp

/-! ### a node comes to a model that is being made -/
def putR (R : Rp) (lay' : List (Nat × Nat)) (k G nbn : Nat) (dvn : Value) (is : Bool) : Rp :=
  ⟨R.mb, R.nm, R.tb, lay', fun j => if j = k then nbn else R.nb j, fun j => if j = k then dvn else R.dv j, fun b => if b = G then some (.node k) else if dvn.ownBlock = some b then some (.data k) else if is = true ∧ b = nbn then some (.names k) else R.L b⟩
theorem md_put {W W' : World} {R : Rp} {m m' : Md} {k : Nat} {d : Nd} {G nbn : Nat} {dvn : Value} {lay' : List (Nat × Nat)} {is : Bool} (h : MdAt W R m) (his : is = true ↔ d.kind = 2)
    (hz : W.heap.size ≤ W'.heap.size) (hs : ∀ b, R.L b ≠ none → b ≠ R.nm → W'.heap[b]? = W.heap[b]?)
    (hmap : W'.ownsMap Tryz.prog 3 heldV R.nm lay'.length (layD lay')) (hids : lay'.map (·.1) = m'.nodes.map (·.1))
    (hlay : ∀ j, lookK lay' j = if j = k then some G else lookK R.lay j)
    (h1 : m'.limit = m.limit ∧ m'.next = m.next ∧ m'.tab = m.tab) (hm' : ∀ j d', lookK m'.nodes j = some d' → (j = k ∧ d' = d) ∨ (j ≠ k ∧ lookK m.nodes j = some d'))
    (hrow : RowAt W' G [.int .i64 d.kind, .int .i64 d.links, .bool d.pin, dvn, .map (if d.kind = 2 then some nbn else none), .int .i64 (d.par : Int)])
    (hdv : OwnB W' 5 dvn d.data.length (bcells d.data))
    (hnb : d.kind = 2 → W'.ownsMap Tryz.prog 9 (plainElem Tryz.prog 3) nbn d.names.length (namD d.names) ∧ R.L nbn = none ∧ nbn ≠ G)
    (hvoid : d.kind ≠ 2 → d.names = []) (hG : R.L G = none) (hD : ∀ b, dvn.ownBlock = some b → R.L b = none ∧ b ≠ G ∧ (d.kind = 2 → b ≠ nbn)) :
    MdAt W' (putR R lay' k G nbn dvn is) m' := by
  have hold : ∀ b, R.L b ≠ none → (putR R lay' k G nbn dvn is).L b = R.L b := fun b hb => by
    show (if b = G then _ else if dvn.ownBlock = some b then _ else if is = true ∧ b = nbn then _ else R.L b) = R.L b
    rw [if_neg (fun e : b = G => hb (by rw [e]; exact hG)), if_neg (fun e : dvn.ownBlock = some b => hb (hD b e).1), if_neg (fun e : is = true ∧ b = nbn => hb (by rw [e.2]; exact (hnb (his.1 e.1)).2.1))]
  have hmb : ∀ b x, R.L b = some x → (putR R lay' k G nbn dvn is).L b = some x := fun b x hb => (hold b (by rw [hb]; simp)).trans hb
  refine ⟨hmb _ _ h.lm, hmb _ _ h.ln, hmb _ _ h.lt, ?_, ?_, hmap, hids, fun j d' hj => ?_, fun b hb => ?_⟩
  · rw [h1.1, h1.2.1]
    exact h.row.same (hs _ (by show R.L R.mb ≠ none; rw [h.lm]; simp) (fun e => by have a := h.lm; rw [show R.mb = R.nm from e, h.ln] at a; cases a))
  · rw [h1.2.2]
    exact ⟨h.tab.1, h.tab.2.same (hs _ (by show R.L R.tb ≠ none; rw [h.lt]; simp) (fun e => by have a := h.lt; rw [show R.tb = R.nm from e, h.ln] at a; cases a))⟩
  · rcases hm' j d' hj with ⟨rfl, rfl⟩ | ⟨hne, hj'⟩
    · have hg : (putR R lay' j G nbn dvn is).g j = G := by
        show (lookK lay' j).getD 0 = G
        rw [hlay, if_pos rfl]; rfl
      have e1 : (putR R lay' j G nbn dvn is).dv j = dvn := if_pos rfl
      have e2 : (putR R lay' j G nbn dvn is).nb j = nbn := if_pos rfl
      refine ⟨?_, ?_, ?_, fun b hb => ?_, fun h2 => ?_, hvoid⟩
      · rw [hg]; exact if_pos rfl
      · rw [hg, nodeC, e1, e2]; exact hrow
      · rw [e1]; exact hdv
      · rw [e1] at hb
        obtain ⟨_, q2, _⟩ := hD b hb
        show (if b = G then _ else if dvn.ownBlock = some b then _ else _) = some (Lab.data j)
        rw [if_neg q2, if_pos hb]
      · rw [e2]
        obtain ⟨q1, q2, q3⟩ := hnb h2
        refine ⟨?_, q1⟩
        show (if nbn = G then _ else if dvn.ownBlock = some nbn then _ else if is = true ∧ nbn = nbn then _ else _) = some (Lab.names j)
        rw [if_neg q3, if_neg (fun e => (hD nbn e).2.2 h2 rfl), if_pos ⟨his.2 h2, rfl⟩]
    · have hN := h.nodes j d' hj'
      have hg : (putR R lay' k G nbn dvn is).g j = R.g j := by
        show (lookK lay' j).getD 0 = (lookK R.lay j).getD 0
        rw [hlay, if_neg hne]
      have e1 : (putR R lay' k G nbn dvn is).dv j = R.dv j := if_neg hne
      have e2 : (putR R lay' k G nbn dvn is).nb j = R.nb j := if_neg hne
      have hnm : ∀ b x, R.L b = some x → x ≠ .nodes → W'.heap[b]? = W.heap[b]? := fun b x hb hx => hs b (by rw [hb]; simp) (fun e => hx (by rw [e, h.ln] at hb; cases hb; rfl))
      refine ⟨?_, ?_, ?_, fun b hb => ?_, fun h2 => ?_, hN.void⟩
      · rw [hg]; exact hmb _ _ hN.lab
      · rw [hg, nodeC, e1, e2]
        exact hN.row.same (hnm _ _ hN.lab (by simp))
      · rw [e1]
        exact ownsRow_same hN.bytes (fun b hb => hnm _ _ (hN.own b hb) (by simp))
      · rw [e1] at hb
        exact hmb _ _ (hN.own b hb)
      · rw [e2]
        obtain ⟨q1, q2⟩ := hN.names h2
        exact ⟨hmb _ _ q1, owns_same q2 (hnm _ _ q1 (by simp))⟩
  · by_cases c : R.L b = none
    · have hb' : (if b = G then some (Lab.node k) else if dvn.ownBlock = some b then some (Lab.data k) else if is = true ∧ b = nbn then some (Lab.names k) else R.L b) ≠ none := hb
      by_cases c1 : b = G
      · rw [c1]; exact hrow.lt
      · rw [if_neg c1] at hb'
        by_cases c2 : dvn.ownBlock = some b
        · exact hdv.lt c2
        · rw [if_neg c2] at hb'
          by_cases c3 : is = true ∧ b = nbn
          · rw [c3.2]; exact (hnb (his.1 c3.1)).1.lt
          · rw [if_neg c3] at hb'; exact absurd c hb'
    · exact Nat.lt_of_lt_of_le (h.old b c) hz
/-- the nodes that are done, one more -/
theorem part_step {m : Md} {left : Lit → Bool} {R : Rp} {k G : Nat} {d : Nd} (hr : Rise m.nodes) (hk : lookK m.nodes k = some d) (hl : left (.int .i64 (k : Int)) = true) (hids : R.lay.map (·.1) = (partM m left).nodes.map (·.1)) :
    (∀ p ∈ R.lay, p.1 ≠ k) ∧ (insK (k, G) R.lay).map (·.1) = (partM m fun z => left z && !z.sameKey (.int .i64 (k : Int))).nodes.map (·.1) ∧
    ∀ j d', lookK (partM m fun z => left z && !z.sameKey (.int .i64 (k : Int))).nodes j = some d' → (j = k ∧ d' = d) ∨ (j ≠ k ∧ lookK (partM m left).nodes j = some d') := by
  have hf : ∀ q : Nat → Bool, (m.nodes.filter fun p => q p.1).map (·.1) = (m.nodes.map (·.1)).filter q := fun q => by
    rw [List.filter_map]; rfl
  have hdk : doneN left k = false := by unfold doneN; rw [hl]; rfl
  refine ⟨fun p hp e => ?_, ?_, fun j d' hj => ?_⟩
  · have h1 : p.1 ∈ (partM m left).nodes.map (·.1) := by rw [← hids]; exact List.mem_map.2 ⟨p, hp, rfl⟩
    obtain ⟨q, hq, e'⟩ := List.mem_map.1 h1
    have := (List.mem_filter.1 hq).2
    rw [e', e, hdk] at this
    cases this
  · rw [insK_ids, hids]
    show insN k ((m.nodes.filter fun p => doneN left p.1).map (·.1)) = (m.nodes.filter fun p => doneN (fun z => left z && !z.sameKey (.int .i64 (k : Int))) p.1).map (·.1)
    rw [hf, hf]
    exact insN_filter hdk (doneN_step left k) hr (List.mem_map.2 ⟨_, lookK_mem hk, rfl⟩)
  · have h1 : lookK (m.nodes.filter fun p => doneN (fun z => left z && !z.sameKey (.int .i64 (k : Int))) p.1) j = some d' := hj
    rw [lookK_filt, doneN_step] at h1
    show _ ∨ (j ≠ k ∧ lookK (m.nodes.filter fun p => doneN left p.1) j = some d')
    rw [lookK_filt]
    by_cases c : j = k
    · subst c
      rw [if_pos (by simp), hk] at h1
      cases h1
      exact .inl ⟨rfl, rfl⟩
    · have hb : (j == k) = false := by simpa using c
      rw [hb, Bool.or_false] at h1
      exact .inr ⟨c, h1⟩

/-- what is loaded of a model, while its clone is made -/
def ClK (w W : World) (R : Rp) (m : Md) : Prop := Below w.heap.size w W ∧ TabAt W R.tb true m.tab ∧ R.mb < w.heap.size ∧ R.tb < w.heap.size
def ClL (w W : World) (R : Rp) (m : Md) : Prop := W.cell? ⟨R.mb, 1, none⟩ = some (.int .i64 (m.limit : Int)) ∧ W.cell? ⟨R.mb, 3, none⟩ = some (.int .i64 (m.next : Int)) ∧ W.cell? ⟨R.mb, 4, none⟩ = some (ptrTo R.tb) ∧ ClK w W R m
theorem cl_keep {w W W' : World} {R : Rp} {m : Md} (h : ClL w W R m) (hb : Below W.heap.size W W') : ClL w W' R m := by
  obtain ⟨h1, h2, h3, h4, h5, h6, h7⟩ := h
  have hs := h4.size
  exact ⟨by rw [hb.cell (p := ⟨R.mb, 1, none⟩) (by show R.mb < _; omega)]; exact h1, by rw [hb.cell (p := ⟨R.mb, 3, none⟩) (by show R.mb < _; omega)]; exact h2, by rw [hb.cell (p := ⟨R.mb, 4, none⟩) (by show R.mb < _; omega)]; exact h3, h4.trans (hb.mono hs), ⟨h5.1, h5.2.below hb h5.2.lt⟩, h6, h7⟩
theorem cl_tab {w W : World} {R : Rp} {m : Md} (h : ClL w W R m) : TabAt W R.tb true m.tab := h.2.2.2.2.1
/-- what the clone has ahead of its nodes -/
structure Cl0 (w W : World) (R : Rp) (m : Md) (c nm tb : Nat) : Prop where
  below : Below w.heap.size w W
  hc : w.heap.size ≤ c ∧ c < W.heap.size
  hn : w.heap.size ≤ nm ∧ nm < W.heap.size
  ht : w.heap.size ≤ tb ∧ tb < W.heap.size
  ne : c ≠ nm ∧ c ≠ tb ∧ nm ≠ tb
  row : RowAt W c [.bool true, .int .i64 (m.limit : Int), .map (some nm), .int .i64 (m.next : Int), ptrTo tb]
  map : W.ownsMap Tryz.prog 3 heldV nm 0 (.map [])
  tab : TabAt W tb true m.tab

theorem cl0_a {w w5 : World} {R : Rp} {m : Md} (ht : TabAt w5 (w.alloc (.map #[] 0)).drew.heap.size true m.tab) (hb : Below (w.alloc (.map #[] 0)).drew.heap.size (w.alloc (.map #[] 0)).drew w5) :
    Cl0 w (w5.alloc (.cells #[.bool true, .int .i64 (m.limit : Int), .map (some w.heap.size), .int .i64 (m.next : Int), .pointer (some ⟨w.heap.size + 1, 0, none⟩)] 66)) R m w5.heap.size w.heap.size (w.heap.size + 1) := by
  have e1 : (w.alloc (.map #[] 0)).drew.heap.size = w.heap.size + 1 := by show (w.alloc _).heap.size = _; simp
  rw [e1] at ht hb
  have hs := hb.size
  have ht2 := ht.lt
  have B1 : Below w.heap.size w (w.alloc (.map #[] 0)).drew := ((Below.refl _ _).alloc (Nat.le_refl _) _).drew
  have B5 : Below w.heap.size w w5 := B1.trans (hb.mono (by omega))
  have hm5 : w5.ownsMap Tryz.prog 3 heldV w.heap.size 0 (.map [] : DataW Value) := owns_same ((World.ownsMap_made _ _ _ _) : (w.alloc (.map #[] 0)).ownsMap Tryz.prog 3 heldV w.heap.size 0 (.map [])) (hb.block _ (by omega))
  refine ⟨B5.alloc B5.size _, ⟨B5.size, by simp⟩, ⟨Nat.le_refl _, by simp; omega⟩, ⟨by omega, by simp; omega⟩, ⟨by omega, by omega, by omega⟩, ?_, owns_same hm5 (Below.heap_alloc _ _ _ (by omega)), ⟨ht.1, ht.2.same (Below.heap_alloc _ _ _ ht2)⟩⟩
  exact rowAt_alloc w5 _ _
theorem cl0_b {w w5 : World} {R : Rp} {m : Md} (ht : TabAt w5 w.drew.heap.size true m.tab) (hb : Below w.drew.heap.size w.drew w5) :
    Cl0 w ((w5.alloc (.map #[] 0)).alloc (.cells #[.bool true, .int .i64 (m.limit : Int), .map (some w5.heap.size), .int .i64 (m.next : Int), .pointer (some ⟨w.heap.size, 0, none⟩)] 66)) R m (w5.heap.size + 1) w5.heap.size w.heap.size := by
  have e1 : w.drew.heap.size = w.heap.size := rfl
  rw [e1] at ht hb
  have hs := hb.size
  have hs1 : w.heap.size ≤ w5.heap.size := hs
  have ht2 := ht.lt
  have B5 : Below w.heap.size w w5 := ((Below.refl w.heap.size w).drew).trans hb
  have B6 : Below w.heap.size w (w5.alloc (.map #[] 0)) := B5.alloc B5.size _
  have e2 : (w5.alloc (.map #[] 0)).heap.size = w5.heap.size + 1 := by simp
  have hm5 : (w5.alloc (.map #[] 0)).ownsMap Tryz.prog 3 heldV w5.heap.size 0 (.map [] : DataW Value) := World.ownsMap_made _ _ _ _
  have hr := rowAt_alloc (w5.alloc (.map #[] 0)) #[.bool true, .int .i64 (m.limit : Int), .map (some w5.heap.size), .int .i64 (m.next : Int), .pointer (some ⟨w.heap.size, 0, none⟩)] 66
  rw [e2] at hr
  refine ⟨B6.alloc B6.size _, ⟨by omega, by simp⟩, ⟨by omega, by simp; omega⟩, ⟨Nat.le_refl _, by simp; omega⟩, ⟨by omega, by omega, by omega⟩, hr, owns_same hm5 (Below.heap_alloc _ _ _ (by rw [e2]; omega)), ⟨ht.1, ht.2.same ((Below.heap_alloc _ _ _ (by rw [e2]; omega)).trans (Below.heap_alloc _ _ _ ht2))⟩⟩

/-- behind a node's clones -/
structure Cl1 (W1 W : World) (G : Nat) (d : Nd) (dvn : Value) (nbn : Nat) : Prop where
  below : Below G W1 W
  row : RowAt W G [.int .i64 d.kind, .int .i64 d.links, .bool d.pin, dvn, .map (if d.kind = 2 then some nbn else none), .int .i64 (d.par : Int)]
  bytes : OwnB W 5 dvn d.data.length (bcells d.data)
  names : d.kind = 2 → W.ownsMap Tryz.prog 9 (plainElem Tryz.prog 3) nbn d.names.length (namD d.names) ∧ G < nbn
  fresh : ∀ b, dvn.ownBlock = some b → G < b ∧ (d.kind = 2 → b ≠ nbn)
theorem cl1_end {W1 W : World} {G : Nat} {d : Nd} {dvn v3 v4 : Value} {nbn : Nat} (hz : W1.heap.size = G + 1) (hb : Below (G + 1) W1 W) (hr : RowAt W1 G [.int .i64 d.kind, .int .i64 d.links, .bool d.pin, v3, v4, .int .i64 (d.par : Int)])
    (ho : OwnB W 5 dvn d.data.length (bcells d.data)) (hf : ∀ b, dvn.ownBlock = some b → G < b ∧ (d.kind = 2 → b ≠ nbn))
    (hn : d.kind = 2 → W.ownsMap Tryz.prog 9 (plainElem Tryz.prog 3) nbn d.names.length (namD d.names) ∧ G < nbn) :
    Cl1 W1 ((W.setCell ⟨G, 3, none⟩ dvn).setCell ⟨G, 4, none⟩ (.map (if d.kind = 2 then some nbn else none))) G d dvn nbn := by
  have hrow : RowAt W G [.int .i64 d.kind, .int .i64 d.links, .bool d.pin, v3, v4, .int .i64 (d.par : Int)] := hr.below (hb.mono (by omega)) hr.lt |> fun h => h
  have hk : ∀ b, G < b → ((W.setCell ⟨G, 3, none⟩ dvn).setCell ⟨G, 4, none⟩ (.map (if d.kind = 2 then some nbn else none))).heap[b]? = W.heap[b]? := fun b hb' => (Below.heap_setCell _ _ _ _ (Nat.ne_of_gt hb')).trans (Below.heap_setCell _ _ _ _ (Nat.ne_of_gt hb'))
  have hb0 : Below G W1 W := hb.mono (by omega)
  refine ⟨(hb0.setCell (p := ⟨G, 3, none⟩) (Nat.le_refl _) _).setCell (p := ⟨G, 4, none⟩) (Nat.le_refl _) _, (hrow.set 3 dvn).set 4 _, ownsRow_same ho (fun b hb' => hk b (hf b hb').1), fun h2 => ?_, hf⟩
  exact ⟨owns_same (hn h2).1 (hk _ (hn h2).2), (hn h2).2⟩
theorem bel_tr {W1 W W' : World} {G : Nat} (h : Below (G + 1) W1 W) (hz : W1.heap.size = G + 1) (h' : Below W.heap.size W W') : Below (G + 1) W1 W' := h.trans (h'.mono (by have := h.size; omega))

set_option maxHeartbeats 16000000 in
theorem mclone {N : Nat} (R : Rp) (m : Md) (w : World) (h : MdAt w R m) (hI : Inv N Nul m) :
    Calls Tryz.prog 31 #[.pointer (some ⟨R.mb, 0, none⟩)] w fun e w' => ∃ R' : Rp, e = .returned (.pointer (some ⟨R'.mb, 0, none⟩)) ∧ MdAt w' R' m ∧ Below w.heap.size w w' ∧ ∀ b, b < w.heap.size → R'.L b = none := by
  obtain ⟨e0, e1, e2, e3, e4⟩ := h.cells
  have HNO := Lib.hid (mnone_row R.mb true w e0)
  have HC := Lib.hid (fun W (hW : TabAt W R.tb true m.tab) => hclone R.tb m.tab W hW)
  have HM := Lib.hid h
  have HI := Lib.hid hI
  have HS0 : Hid (ClL w w.drew R m) := ⟨e1, e3, e4, (Below.refl _ _).drew, ⟨h.tab.1, h.tab.2.drew⟩, h.row.lt, h.tab.lt⟩
  have hlt := h.row.lt
  have hmm := @run_makeMap Tryz.prog
  clear h e0 hI
  go_enter Tryz.func31, Tryz.ntmps31
  go_wp2_with fail
  refine HNO.out.mono ?_
  rintro e w1 ⟨rfl, rfl⟩
  go_upto_region 3 with fail
  go_cut [3] (fun cc wx => ∃ c nm tb : Nat, cc = .pointer (some ⟨c, 0, none⟩) ∧ Hid (Cl0 w wx R m c nm tb))
  case first =>
    go_region_held3 (fun W => W.cell? ⟨R.mb, 1, none⟩ = some (.int .i64 (m.limit : Int)) ∧ W.cell? ⟨R.mb, 3, none⟩ = some (.int .i64 (m.next : Int)) ∧ W.cell? ⟨R.mb, 4, none⟩ = some (ptrTo R.tb) ∧ ClK w W R m) (first | (exact HS0.out) | (exact cl_keep (by assumption) (by assumption)) | (exact cl_keep (by assumption) ((Below.refl _ _).alloc (Nat.le_refl _) _)))
      (first | (go_at_call 81; refine (HC.out _ (cl_tab (w := w) (by assumption))).mono ?_; rintro e w5 ⟨rfl, ht5, hb5⟩))
    all_goals
      go_wp2_with fail
      go_meet
      case rel => first | exact ⟨_, _, _, rfl, cl0_a ht5 hb5⟩ | exact ⟨_, _, _, rfl, cl0_b ht5 hb5⟩
  case rest =>
    obtain ⟨c, nm, tb, rfl, H0⟩ := hcut
    have hMc := HM.out.below H0.out.below (Nat.le_refl _)
    have e2 := hMc.cells.2.2.1
    have HMAP := Lib.hid hMc.map
    have HIT : Hid (R.mb < wc.heap.size) := hMc.row.lt
    clear HC HS0 hmm e1 e3 e4 HNO hMc hlt
    go_wp2_with (at_range; refine wpList_range_own _ rfl _ 63 rfl 3 76 keyed_int Tryz.underlying63 heldV R.nm R.lay.length (layD R.lay) rfl HMAP.out ?_; intro w0 hrg0 hg0 hs0)
    go_frame
    have HIDS := Lib.hid HM.out.ids
    have HRG := Lib.hid (And.intro hrg0 (And.intro hg0 hs0))
    clear hrg0 hg0 hs0 e2 HMAP
    obtain ⟨IT, hIT⟩ : ∃ IT, IT = wc.heap.size := ⟨_, rfl⟩
    rw [← hIT] at HRG ⊢
    have HITE := Lib.hid hIT
    clear hIT
    go_loopw [4] (fun _ wr => ∃ (left : Lit → Bool) (cnt : Nat) (R' : Rp), wr.ranges Tryz.prog 3 heldV R.nm IT R.lay.length (layD R.lay) left cnt ∧ Hid (MdAt wr R' (partM m left) ∧ R'.mb = c ∧ Below w.heap.size w wr ∧ (∀ b, b < w.heap.size → R'.L b = none) ∧ R'.L IT = none ∧ w.heap.size ≤ IT)) (fun _ wr => wr.rangeLeft R.nm IT)
    case atStart =>
      obtain ⟨hrg0, hg0, hs0⟩ := HRG.out
      have hI0 := HITE.out
      obtain ⟨q1, q2, q3⟩ := H0.out.ne
      obtain ⟨c1, c2⟩ := H0.out.hc
      obtain ⟨n1, n2⟩ := H0.out.hn
      obtain ⟨t1, t2⟩ := H0.out.ht
      have hk0 : ∀ b, b < wc.heap.size → w0.heap[b]? = wc.heap[b]? := fun b hb => hg0.block b hb (by simp)
      have hp := part_none (m := m) HIDS.out
      refine ⟨_, _, ⟨c, nm, tb, [], fun _ => 0, fun _ => nilS, fun b => if b = c then some .model else if b = nm then some .nodes else if b = tb then some .table else none⟩, hrg0, Lib.hid ⟨⟨if_pos rfl, ?_, ?_, H0.out.row.same (hk0 _ c2), ⟨H0.out.tab.1, H0.out.tab.2.same (hk0 _ t2)⟩, owns_same H0.out.map (hk0 _ n2), ?_, fun k d hk => ?_, fun b hb => ?_⟩, rfl, H0.out.below.grown hg0 H0.out.below.size (fun j hj => by cases hj), fun b hb => ?_, ?_, ?_⟩⟩
      · show (if nm = c then _ else if nm = nm then _ else _) = _
        rw [if_neg (fun e => q1 e.symm), if_pos rfl]
      · show (if tb = c then _ else if tb = nm then _ else if tb = tb then _ else _) = _
        rw [if_neg (fun e => q2 e.symm), if_neg (fun e => q3 e.symm), if_pos rfl]
      · rw [hp]; rfl
      · rw [hp] at hk; cases hk
      · by_cases e1 : b = c
        · rw [e1]; have := hg0.size; omega
        · by_cases e2 : b = nm
          · rw [e2]; have := hg0.size; omega
          · by_cases e3 : b = tb
            · rw [e3]; have := hg0.size; omega
            · exact absurd (show (if b = c then some Lab.model else if b = nm then some .nodes else if b = tb then some .table else none) = none by rw [if_neg e1, if_neg e2, if_neg e3]) hb
      · show (if b = c then some Lab.model else if b = nm then some .nodes else if b = tb then some .table else none) = none
        rw [if_neg (by omega), if_neg (by omega), if_neg (by omega)]
      · show (if IT = c then some Lab.model else if IT = nm then some .nodes else if IT = tb then some .table else none) = none
        rw [if_neg (by omega), if_neg (by omega), if_neg (by omega)]
      · rw [hI0]; exact H0.out.below.size
    case round =>
      obtain ⟨left, cnt, R', hrg, HR⟩ := hrel
      go_wp2_with (at_next; refine wpList_next_ranges _ rfl _ rfl 3 keyed_int heldV (Value.int .i64) (fun v : Value => v) (fun key kl hk => by obtain ⟨x, hx, _⟩ := Maps.keyOf_int_inv Tryz.underlying3 hk; exact ⟨x, hx⟩) (fun v y _ => ⟨v, rfl⟩) R.nm IT R.lay.length (layD R.lay) left cnt rfl hrg ?_ ?_)
      · intro hc0 hl0
        go_wp2_with fail
        go_ret
        have h9 := HR.out.1
        rw [part_all hl0] at h9
        exact ⟨R', by rw [HR.out.2.1]; rfl, h9, HR.out.2.2.1, HR.out.2.2.2.1⟩
      · intro x cv kl yd yp w1 cnt1 hkey hlk hv hat hrg1 hlt hg1 hs1 hen
        obtain ⟨x', ex, rfl, hwx⟩ := Maps.keyOf_int_inv Tryz.underlying3 hkey
        cases ex
        obtain ⟨rfl, rfl⟩ : DataW.held cv = yd ∧ [] = yp := Prod.mk.inj (Option.some.inj hv)
        obtain ⟨k, g, rfl, hkl, rfl⟩ := lay_next hat
        have hk1 : (lookK m.nodes k).isSome = true := by rw [← lookK_ids (k := k) HM.out.ids, hkl]; rfl
        obtain ⟨d, hd⟩ := Option.isSome_iff_exists.1 hk1
        obtain rfl : g = R.g k := by rw [Rp.g, hkl]; rfl
        obtain ⟨r1, r2, r3, r4, r5, r6⟩ := HR.out
        have B1 : Below w.heap.size w w1 := r3.grown hg1 r3.size (fun j hj => by cases hj; exact r6)
        have hMR := r1.grown hg1 (fun b hb => by cases hb; exact r5)
        have HN := Lib.hid ((HM.out.below B1 (Nat.le_refl _)).nodes k d hd)
        have HD := Lib.hid hd
        have HLK := Lib.hid hlk
        have HWX := Lib.hid hwx
        have HRG1 := Lib.hid (And.intro hrg1 (And.intro hlt hrg))
        have HR1 := Lib.hid (And.intro hMR (And.intro r2 (And.intro B1 (And.intro r4 (And.intro r5 r6)))))
        have hgl : R.g k < w1.heap.size := HN.out.row.lt
        obtain ⟨c0, c1, c2, c3, c4, c5⟩ := HN.out.cells
        obtain ⟨adv, cdv, hdv⟩ := ownB_form HN.out.bytes
        obtain ⟨mv, hmv⟩ : ∃ o : Option Nat, o = if d.kind = 2 then some (R.nb k) else none := ⟨_, rfl⟩
        rw [hdv] at c3
        rw [← hmv] at c4
        have HDV := Lib.hid hdv
        have HMV := Lib.hid hmv
        clear hdv hmv hkey hlk hv hat hrg hrg1 hlt hg1 hs1 hkl hk1 hd r1 r2 r3 r4 r5 r6 B1 hMR HR hwx
        go_upto_region 8 with fail
        clear hen c0 c1 c2 c5
        have hrow := rowAt_alloc w1 #[.int .i64 d.kind, .int .i64 d.links, .bool d.pin, .slice adv d.data.length cdv, .map mv, .int .i64 (d.par : Int)] 80
        have hb1 := (Below.refl w1.heap.size w1).alloc (Nat.le_refl _) (.cells #[.int .i64 d.kind, .int .i64 d.links, .bool d.pin, .slice adv d.data.length cdv, .map mv, .int .i64 (d.par : Int)] 80)
        have hz1 : (w1.alloc (.cells #[.int .i64 d.kind, .int .i64 d.links, .bool d.pin, .slice adv d.data.length cdv, .map mv, .int .i64 (d.par : Int)] 80)).heap.size = w1.heap.size + 1 := by simp
        generalize w1.alloc (.cells #[.int .i64 d.kind, .int .i64 d.links, .bool d.pin, .slice adv d.data.length cdv, .map mv, .int .i64 (d.par : Int)] 80) = W1 at *
        obtain ⟨G, hG⟩ : ∃ G, G = w1.heap.size := ⟨_, rfl⟩
        rw [← hG] at hrow hb1 hz1 hgl ⊢
        have HX0 := Lib.hid (And.intro hrow (And.intro hb1 (And.intro hz1 hG)))
        have HX : Hid (∀ W, Below (G + 1) W1 W → W.cell? ⟨R.g k, 3, none⟩ = some (.slice adv d.data.length cdv) ∧ W.cell? ⟨R.g k, 4, none⟩ = some (.map mv) ∧ W.cell? ⟨G, 3, none⟩ = some (.slice adv d.data.length cdv) ∧ W.cell? ⟨G, 4, none⟩ = some (.map mv) ∧ W.frozen? ⟨G, 3, none⟩ = false ∧ W.frozen? ⟨G, 4, none⟩ = false ∧ G < W.heap.size) := fun W hb => by
          have hr := hrow.below (hb.mono (by omega)) hrow.lt
          have hc : ∀ i v, w1.cell? ⟨R.g k, i, none⟩ = some v → W.cell? ⟨R.g k, i, none⟩ = some v := fun i v hv => by
            rw [hb.cell (p := ⟨R.g k, i, none⟩) (by show R.g k < _; omega), hb1.cell (p := ⟨R.g k, i, none⟩) (by show R.g k < _; omega)]; exact hv
          exact ⟨hc 3 _ c3, hc 4 _ c4, hr.cell 3 (by simp), hr.cell 4 (by simp), hr.frozen 3 (by simp), hr.frozen 4 (by simp), hr.lt⟩
        have HB1 : Hid (Below (G + 1) W1 W1.drew) := (Below.refl _ _).drew
        have HSAME : Hid (∀ W, Below (G + 1) W1 W → ∀ b, b < w1.heap.size → W.heap[b]? = w1.heap[b]?) := fun W hb b hl => (hb.block b (by omega)).trans (hb1.block b (by omega))
        have HSC : Hid (∀ W, Below (G + 1) W1 W → Calls Tryz.prog 82 #[.slice adv d.data.length cdv] W fun e w' => ∃ v', e = .returned v' ∧ OwnB w' 5 v' d.data.length (bcells d.data) ∧ (∀ b, v'.ownBlock = some b → W.heap.size ≤ b) ∧ Below W.heap.size W w') := fun W hb =>
          sclone _ _ _ W (HDV.out ▸ ownsRow_same HN.out.bytes (fun b hb' => HSAME.out W hb b (HN.out.bytes.lt hb'))) (by have := (HI.out.shape k d HD.out).2.2; omega) (fun u hu => by obtain ⟨b, _, rfl⟩ := List.mem_map.1 hu; rfl)
        have HMC : Hid (d.kind = 2 → ∀ W, Below (G + 1) W1 W → Calls Tryz.prog 83 #[.map (some (R.nb k))] W fun e w' => e = .returned (.map (some W.heap.size)) ∧ w'.ownsMap Tryz.prog 9 (plainElem Tryz.prog 3) W.heap.size d.names.length (namD d.names) ∧ Below W.heap.size W w') := fun h2 W hb =>
          mpclone_own _ _ _ W (owns_same (HN.out.names h2).2 (HSAME.out W hb _ (HN.out.names h2).2.lt))
        have HZ1 := Lib.hid hz1
        clear hrow hb1 c3 c4 hG hz1
        go_cut [] from 30 to 54 (fun wx => ∃ (dvn : Value) (nbn : Nat), Hid (Cl1 W1 wx G d dvn nbn))
        case first =>
          by_cases h2 : d.kind = 2
          · obtain rfl : mv = some (R.nb k) := by rw [HMV.out, if_pos h2]
            have HMC := Lib.hid (HMC.out h2)
            obtain ⟨n3, n4, x3, x4, f3, f4, f5⟩ := HX.out W1 (Below.refl _ _)
            have H2 := Lib.hid h2
            clear h2
            go_region_law (first
              | (go_simp; go_at_call 82; refine (HSC.out _ (by first | exact HB1.out | assumption)).mono ?_; rintro e w5 ⟨v5, rfl, o5, l5, b5⟩; obtain ⟨a5, cp5, rfl⟩ := ownB_form o5; have hb5 := bel_tr (by first | exact HB1.out | assumption) HZ1.out b5; obtain ⟨n35, n45, x35, x45, f35, f45, f55⟩ := HX.out _ hb5)
              | (go_simp; go_at_call 83; refine (HMC.out _ (by first | exact HB1.out | assumption)).mono ?_; rintro e w6 ⟨rfl, o6, b6⟩; have hb6 := bel_tr (by first | exact HB1.out | assumption) HZ1.out b6; obtain ⟨n36, n46, x36, x46, f36, f46, f56⟩ := HX.out _ hb6))
            all_goals
              have HF5 : Hid (∀ b, (Value.slice a5 d.data.length cp5).ownBlock = some b → G < b ∧ (d.kind = 2 → b ≠ w5.heap.size)) := fun b hb' => by
                have q1 := l5 b hb'
                have q2 := o5.lt hb'
                have q3 : W1.drew.heap.size = G + 1 := HZ1.out
                rw [q3] at q1
                exact ⟨by omega, fun _ => by omega⟩
              have HEND := Lib.hid (cl1_end HZ1.out hb6 HX0.out.1 (ownsRow_same o5 (fun b hb' => b6.block b (o5.lt hb'))) HF5.out (fun _ => ⟨o6, f55⟩))
              clear HF5 l5 o5 b5 b6 o6 n35 n45 x35 x45 f35 f45 f55 n36 n46 x36 x46 f36 f46 f56 hb5 hb6
              go_wp2_with fail
              go_meet
              case rel => exact ⟨_, w5.heap.size, by have := HEND.out; rw [if_pos H2.out] at this; exact this⟩
          · obtain rfl : mv = none := by rw [HMV.out, if_neg h2]
            obtain ⟨n3, n4, x3, x4, f3, f4, f5⟩ := HX.out W1 (Below.refl _ _)
            have H2 := Lib.hid h2
            clear h2
            go_region_law (first
              | (go_simp; go_at_call 82; refine (HSC.out _ (by first | exact HB1.out | assumption)).mono ?_; rintro e w5 ⟨v5, rfl, o5, l5, b5⟩; obtain ⟨a5, cp5, rfl⟩ := ownB_form o5; have hb5 := bel_tr (by first | exact HB1.out | assumption) HZ1.out b5; obtain ⟨n35, n45, x35, x45, f35, f45, f55⟩ := HX.out _ hb5)
              | (go_simp; go_at_call 83; refine (mpclone_nil _).mono ?_; rintro e w6 ⟨rfl, rfl⟩))
            all_goals
              have HF5 : Hid (∀ b, (Value.slice a5 d.data.length cp5).ownBlock = some b → G < b ∧ (d.kind = 2 → b ≠ 0)) := fun b hb' => by
                have q1 := l5 b hb'
                have q3 : W1.drew.heap.size = G + 1 := HZ1.out
                rw [q3] at q1
                exact ⟨by omega, fun _ => by omega⟩
              have HEND := Lib.hid (cl1_end (nbn := 0) HZ1.out hb5 HX0.out.1 o5 HF5.out (fun q => absurd q H2.out))
              clear HF5 l5 o5 b5 n35 n45 x35 x45 f35 f45 f55 hb5
              go_wp2_with fail
              go_meet
              case rel => exact ⟨_, 0, by have := HEND.out; rw [if_neg H2.out] at this; exact this⟩
        case rest =>
          obtain ⟨dvn, nbn, H1⟩ := hcut
          obtain ⟨hMR, hmb, B1, hLo, hLI, hwi⟩ := HR1.out
          obtain ⟨_, hb1, hz, hGe⟩ := HX0.out
          have hBx : Below w1.heap.size w1 wc := hGe ▸ hb1.trans H1.out.below
          have hM6 := hMR.below hBx (Nat.le_refl _)
          have hGN : R'.L G = none := by
            by_cases e : R'.L G = none
            · exact e
            · have := hMR.old G e; omega
          have m2 := hM6.cells.2.2.1
          rw [hmb] at m2
          have HK : Hid (keyOf Tryz.prog 3 (.int .i64 (k : Int)) = some (.int .i64 (k : Int))) := keyOf_int_mk Tryz.underlying3 HWX.out
          have HLL := Lib.hid (show R'.lay.length < maxLen from by
            have h1 := hM6.len
            have h2 : (partM m left).nodes.length ≤ m.nodes.length := List.length_filter_le _ _
            have h3 := HI.out.many; have h4 := HI.out.limit
            unfold maxLen; omega)
          have HM6 := Lib.hid (And.intro hM6 (And.intro hGN (And.intro hBx hmb)))
          clear hMR hmb B1 hLo hLI hwi hb1 hz hGe hBx hM6 hGN HSC HMC HB1 HX HSAME
          go_wp2_with (at_mapUpdate; refine wpList_mapUpdate_in _ rfl _ _ _ 63 rfl 3 76 keyed_int Tryz.underlying63 heldV R'.nm R'.lay.length (layD R'.lay) rfl HM6.out.1.map HLL.out _ _ _ rfl rfl HK.out (.held (ptrTo G)) [] rfl ?_; intro W7 hown7 hturn7; have HT7 := Lib.hid (And.intro hown7 hturn7); clear hown7 hturn7)
          have HRG7 : Hid (W7.ranges Tryz.prog 3 heldV R.nm IT R.lay.length (layD R.lay) (fun z => left z && !z.sameKey (.int .i64 (k : Int))) cnt1) := by
            have hg7 := HT7.out.2.grown
            have hBx := HM6.out.2.2.1
            refine HRG1.out.1.kept (row := some R'.nm) ⟨hg7.os.trans hBx.os, hg7.tape.trans hBx.tape, hg7.output.trans hBx.output, Nat.le_trans hBx.size hg7.size, fun b hl hne => (hg7.block b (Nat.lt_of_lt_of_le hl hBx.size) hne).trans (hBx.block b hl)⟩ (fun e => ?_) (fun e => ?_)
            · have e := Option.some.inj e
              have h1 := HM.out.old R.nm (by rw [HM.out.ln]; simp)
              have h2 := HR1.out.2.2.2.1 R.nm h1
              rw [e, HR1.out.1.ln] at h2; cases h2
            · have e := Option.some.inj e
              have h2 := HR1.out.2.2.2.2.1
              rw [e, HR1.out.1.ln] at h2; cases h2
          go_roundw
          case rel =>
            obtain ⟨hMR, hmb, B1, hLo, hLI, hwi⟩ := HR1.out
            obtain ⟨hrow, hb1, hz, hGe⟩ := HX0.out
            obtain ⟨hM6, hGN, hBx, _⟩ := HM6.out
            have hg7 := HT7.out.2.grown
            have hI := HI.out
            have hd := HD.out
            have hnm : R'.L R'.nm = some .nodes := hM6.ln
            have hnmG : R'.nm < G := by have := hMR.old R'.nm (by rw [hMR.ln]; simp); omega
            have hnmw : w.heap.size ≤ R'.nm := by
              by_cases q : R'.nm < w.heap.size
              · have := hLo _ q; rw [hnm] at this; cases this
              · omega
            have hLN : ∀ b, G ≤ b → R'.L b = none := fun b hb => by
              by_cases e : R'.L b = none
              · exact e
              · have := hMR.old b e; omega
            have hwG : w.heap.size ≤ G := by rw [hGe]; exact B1.size
            have hIT : IT < G := by rw [hGe]; exact HRG1.out.1.lt
            obtain ⟨p1, p2, p3⟩ := part_step (G := G) hI.rise hd HLK.out hM6.ids
            have hmap : W7.ownsMap Tryz.prog 3 heldV R'.nm (insK (k, G) R'.lay).length (layD (insK (k, G) R'.lay)) := by
              have h1 := owns_tight HT7.out.1
              rw [layD_ins _ p1, layD_size] at h1
              exact h1
            have hkeep : ∀ b, b ≠ R'.nm → b < wc.heap.size → W7.heap[b]? = wc.heap[b]? := fun b hb hl => hg7.block b hl (fun e => hb (Option.some.inj e))
            have hGlt : G < wc.heap.size := H1.out.row.lt
            have hrow7 := H1.out.row.same (hkeep G (by omega) hGlt)
            have hdv7 := ownsRow_same H1.out.bytes (fun b hb => hkeep b (by have := (H1.out.fresh b hb).1; omega) (H1.out.bytes.lt hb))
            have hput := md_put (W := wc) (W' := W7) (is := decide (d.kind = 2)) (nbn := nbn) (dvn := dvn) (m' := partM m fun z => left z && !z.sameKey (.int .i64 (k : Int))) hM6 (by simp) hg7.size (fun b hb hne => hkeep b hne (hM6.old b hb)) hmap p2 (fun j => lookK_insK p1) ⟨rfl, rfl, rfl⟩ p3 hrow7 hdv7
              (fun h2 => ⟨owns_same (H1.out.names h2).1 (hkeep nbn (by have := (H1.out.names h2).2; omega) (H1.out.names h2).1.lt), hLN _ (by have := (H1.out.names h2).2; omega), by have := (H1.out.names h2).2; omega⟩) HN.out.void hGN
              (fun b hb => ⟨hLN _ (by have := (H1.out.fresh b hb).1; omega), by have := (H1.out.fresh b hb).1; omega, (H1.out.fresh b hb).2⟩)
            have hlow : ∀ b, b < G → (putR R' (insK (k, G) R'.lay) k G nbn dvn (decide (d.kind = 2))).L b = R'.L b := fun b hb => by
              show (if b = G then _ else if dvn.ownBlock = some b then _ else if decide (d.kind = 2) = true ∧ b = nbn then _ else R'.L b) = R'.L b
              rw [if_neg (by omega), if_neg (fun e => by have := (H1.out.fresh b e).1; omega), if_neg (fun e => by have := (H1.out.names (of_decide_eq_true e.1)).2; omega)]
            exact ⟨_, ⟨cnt1, HRG7.out⟩, putR R' (insK (k, G) R'.lay) k G nbn dvn (decide (d.kind = 2)), Lib.hid ⟨hput, hmb, (B1.trans (hBx.mono B1.size)).grown hg7 (Nat.le_trans B1.size hBx.size) (fun j hj => by cases hj; exact hnmw), fun b hb => (hlow b (by omega)).trans (hLo b hb), (hlow IT hIT).trans hLI, hwi⟩⟩
          case measure => rw [HRG7.out.left_eq, HRG1.out.2.2.left_eq]; exact HRG1.out.2.1

end Go.Proofs.YtppdihpobokfnaaGreatDoor
