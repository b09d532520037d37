/- A part of a proof. -/
import Derived.Test.YtppdihpobokfnaaGreatDoorGPl2
import Derived.Test.YtppdihpobokfnaaGreatDoorGNR
set_option linter.unusedVariables false
set_option linter.unusedSimpArgs false
namespace Go.Proofs.YtppdihpobokfnaaGreatDoor
open Go Go.RowKit
structure RN where
 id : Nat
 kind : Int
 pin : Bool
 data : Bs
abbrev RE := En
structure RF where
 f : Nat
 n : Nat
 a : Nat
structure RM where
 limit : Nat
 next : Nat
 nodes : List RN
 ents : List RE
 fds : List RF
def RM.nd (r : RM) (k : Nat) : Option RN := r.nodes.find? fun n => n.id == k
def RM.kind (r : RM) (k : Nat) : Int := match r.nd k with | some n => n.kind | none => 0
def RM.ent (r : RM) (dir : Nat) (s : Bs) : Option RE := r.ents.find? fun e => e.dir == dir && e.name == s
def RM.par (r : RM) (k : Nat) : Nat := match r.ents.find? fun e => e.node == k with | some e => e.dir | none => 0
def RM.links (r : RM) (k : Nat) : Int :=
 if r.kind k = 1 then (r.ents.countP fun e => e.node == k : Nat) else 2 + (r.ents.countP fun e => e.dir == k && r.kind e.node == 2 : Nat)
def RM.data (r : RM) (k : Nat) : Bs := match r.nd k with | some n => n.data | none => []
def RM.pin (r : RM) (k : Nat) : Bool := match r.nd k with | some n => n.pin | none => false
def RM.size (r : RM) (k : Nat) : Int := if r.kind k = 1 then (r.data k).length else (r.ents.countP fun e => e.dir == k : Nat)
def RM.stat (r : RM) (k : Nat) : Stt := ⟨r.kind k, r.size k, r.links k, r.pin k⟩
def leadR (r : RM) : Nat → List Bs → Nat × Int
 | at_, [] => (at_, 0)
 | at_, p :: ps =>
  if r.kind at_ ≠ 2 then (0, 212)
  else if p = [46] then leadR r at_ ps
  else if p = [46, 46] then leadR r (r.par at_) ps
  else match r.ent at_ p with
   | none => (0, 210)
   | some e => leadR r e.node ps
def pathR (r : RM) (path : Bs) : Nat × Int := if (splitP path).2 ≠ 0 then (0, (splitP path).2) else leadR r 0 (splitP path).1
def placeR (r : RM) (path : Bs) : Pl × Int :=
 if (splitP path).2 ≠ 0 then (Pl.zero, (splitP path).2)
 else match (splitP path).1.getLast? with
  | none => (Pl.zero, 216)
  | some x =>
   if x = [46] ∨ x = [46, 46] then (Pl.zero, 216)
   else if (leadR r 0 (splitP path).1.dropLast).2 ≠ 0 then (Pl.zero, (leadR r 0 (splitP path).1.dropLast).2)
   else if r.kind (leadR r 0 (splitP path).1.dropLast).1 ≠ 2 then (Pl.zero, 212)
   else (⟨(leadR r 0 (splitP path).1.dropLast).1, nodeAt ((r.ent (leadR r 0 (splitP path).1.dropLast).1 x).map (·.node)), x⟩, 0)
def make1R (r : RM) (a : Pl) (kind : Int) : (Nat × Int) × RM :=
 if r.limit ≤ r.nodes.length then ((0, 171), r)
 else ((r.next, 0), { r with next := r.next + 1, nodes := r.nodes ++ [⟨r.next, kind, false, []⟩], ents := r.ents ++ [⟨a.dir, a.name, r.next⟩] })
def unnameR (r : RM) (dir : Nat) (s : Bs) : RM := { r with ents := r.ents.eraseP fun e => e.dir == dir && e.name == s }
def staysR (r : RM) (k : Nat) : Bool := k == 0 || r.ents.any (fun e => e.node == k) || r.fds.any fun x => x.n == k
def sweepR (r : RM) : RM := { r with nodes := r.nodes.filter fun n => staysR r n.id }
def setR (r : RM) (k : Nat) (f : RN → RN) : RM := { r with nodes := r.nodes.map fun n => if n.id = k then f n else n }
def fdR (r : RM) (fd : Int) : Option RF := r.fds.find? fun x => (x.f : Int) == fd
def setF (r : RM) (fd : Int) (a : Nat) : RM := { r with fds := r.fds.map fun x => if (x.f : Int) = fd then ⟨x.f, x.n, a⟩ else x }
def dropF (r : RM) (fd : Int) : RM := { r with fds := r.fds.eraseP fun x => (x.f : Int) == fd }
def throughR (r : RM) (c : Cl) (x : RF) (many : Nat) : An × RM :=
 match c.k with
 | 2 => (An.zero, sweepR (dropF r c.fd))
 | 3 =>
  if c.n < 0 ∨ 1024 < c.n then (failA 216, r)
  else if (r.data x.n).length < x.a then (An.zero, r)
  else
   let out := ((r.data x.n).drop x.a).take c.n.toNat
   ({ An.zero with d := out }, setF r c.fd (x.a + out.length))
 | 4 =>
  if 1024 < c.d.size then (failA 216, r)
  else if 262144 < x.a + c.d.size then (failA 190, r)
  else if many = 0 then (An.zero, r)
  else ({ An.zero with n := many }, setF (setR r x.n fun n => { n with data := overB (growB n.data x.a) x.a ((bts c.d).take many) }) c.fd (x.a + many))
 | 5 => if c.n < 0 ∨ 262144 < c.n then (failA 216, r) else ({ An.zero with n := c.n }, setF r c.fd c.n.toNat)
 | 6 => if c.n < 0 then (failA 216, r) else if 262144 < c.n then (failA 190, r) else (An.zero, setR r x.n fun n => { n with data := (growB n.data c.n.toNat).take c.n.toNat })
 | 14 => ({ An.zero with st := r.stat x.n }, r)
 | _ => (An.zero, r)
def freeFd (r : RM) : Option Nat := (List.range 16).find? fun i => (fdR r (i : Nat)).isNone
def openAtR (r : RM) (c : Cl) (k : Nat) : An × RM :=
 let r1 := if c.n / 4 = 1 then setR r k fun n => { n with data := [] } else r
 match freeFd r1 with
 | some fd => ({ An.zero with n := fd }, { r1 with fds := r1.fds ++ [⟨fd, k, 0⟩] })
 | none => (failA 221, r1)
def openR (r : RM) (c : Cl) : An × RM :=
 if c.n < 0 ∨ 7 < c.n then (failA 216, r)
 else if (splitP (bts c.p)).2 ≠ 0 then (failA (splitP (bts c.p)).2, r)
 else if 16 ≤ r.fds.length then (failA 221, r)
 else
  let q := pathR r (bts c.p)
  if q.2 = 0 ∧ c.n % 2 = 1 ∧ c.n / 2 % 2 = 1 then (failA 211, r)
  else if q.2 = 0 ∧ r.kind q.1 = 2 then (failA 213, r)
  else if q.2 ≠ 0 then
   let a := placeR r (bts c.p)
   if q.2 ≠ 210 ∨ c.n % 2 ≠ 1 ∨ a.2 ≠ 0 ∨ 0 ≤ a.1.node then (failA q.2, r)
   else
    let f := make1R r a.1 1
    if f.1.2 ≠ 0 then (failA f.1.2, f.2) else openAtR f.2 c f.1.1
  else openAtR r c q.1
def mkdirR (r : RM) (c : Cl) : An × RM :=
 let a := placeR r (bts c.p)
 if a.2 ≠ 0 then (failA a.2, r)
 else if 0 ≤ a.1.node then (failA 211, r)
 else if 100 ≤ r.links a.1.dir then (failA 215, r)
 else
  let f := make1R r a.1 2
  (failA f.1.2, f.2)
def removeR (r : RM) (c : Cl) : An × RM :=
 let a := placeR r (bts c.p)
 if a.2 ≠ 0 then (failA a.2, r)
 else if a.1.node < 0 then (failA 210, r)
 else
  let dir := r.kind a.1.node.toNat == 2
  if c.k = 10 ∧ dir = true then (failA 213, r)
  else if c.k = 8 ∧ dir = false then (failA 212, r)
  else if dir = true ∧ 0 < r.size a.1.node.toNat then (failA 214, r)
  else (An.zero, sweepR (unnameR r a.1.dir a.1.name))
def lnkR (r : RM) (c : Cl) : An × RM :=
 let q := pathR r (bts c.p)
 if q.2 ≠ 0 then (failA q.2, r)
 else if r.kind q.1 = 2 then (failA 213, r)
 else
  let a := placeR r (bts c.o)
  if a.2 ≠ 0 then (failA a.2, r)
  else if 0 ≤ a.1.node then (failA 211, r)
  else if 100 ≤ r.links q.1 then (failA 215, r)
  else (An.zero, { r with ents := r.ents ++ [⟨a.1.dir, a.1.name, q.1⟩] })
def liesR (r : RM) (inn : Nat) : Nat → Nat → Bool
 | 0, k => k == inn
 | f + 1, k => if k ≠ inn ∧ k ≠ 0 then liesR r inn f (r.par k) else k == inn
def renameR (r : RM) (c : Cl) : An × RM :=
 let a := placeR r (bts c.p)
 if a.2 ≠ 0 then (failA a.2, r)
 else if a.1.node < 0 then (failA 210, r)
 else
  let b := placeR r (bts c.o)
  if b.2 ≠ 0 then (failA b.2, r)
  else if b.1.node = a.1.node then (An.zero, r)
  else
   let dir := r.kind a.1.node.toNat == 2
   if dir = true ∧ liesR r a.1.node.toNat (r.nodes.length + 1) b.1.dir = true then (failA 216, r)
   else if b.1.node < 0 ∧ dir = true ∧ b.1.dir ≠ a.1.dir ∧ 100 ≤ r.links b.1.dir then (failA 215, r)
   else
    let other := r.kind b.1.node.toNat == 2
    if 0 ≤ b.1.node ∧ dir = true ∧ other = false then (failA 212, r)
    else if 0 ≤ b.1.node ∧ dir = false ∧ other = true then (failA 213, r)
    else if 0 ≤ b.1.node ∧ other = true ∧ 0 < r.size b.1.node.toNat then (failA 214, r)
    else
     let r0 := if 0 ≤ b.1.node then unnameR r b.1.dir b.1.name else r
     let r1 := unnameR r0 a.1.dir a.1.name
     (An.zero, sweepR { r1 with ents := r1.ents ++ [⟨b.1.dir, b.1.name, a.1.node.toNat⟩] })
def insR (x : Bs) : List Bs → List Bs
 | [] => [x]
 | y :: l => if bytesBefore y x then y :: insR x l else x :: y :: l
def namesR (r : RM) (k : Nat) : List Bs := (r.ents.filter fun e => e.dir == k).foldl (fun acc e => insR e.name acc) []
def byR (r : RM) (c : Cl) : An × RM :=
 let q := pathR r (bts c.p)
 if q.2 ≠ 0 then (failA q.2, r)
 else if c.k = 13 then ({ An.zero with st := r.stat q.1 }, r)
 else if c.k = 15 then (An.zero, setR r q.1 fun n => { n with pin := c.on })
 else if r.kind q.1 ≠ 2 then (failA 212, r)
 else ({ An.zero with names := namesR r q.1 }, r)
def byFd (k : Int) : Bool := k == 2 || k == 3 || k == 4 || k == 5 || k == 6 || k == 14 || k == 16
def doR (r : RM) (c : Cl) : An × RM :=
 if byFd c.k = true then
  match fdR r c.fd with
  | none => (failA 220, r)
  | some x => throughR r c x c.d.size
 else match c.k with
  | 1 => openR r c
  | 7 => mkdirR r c
  | 8 => removeR r c
  | 10 => removeR r c
  | 9 => lnkR r c
  | 11 => renameR r c
  | 12 => byR r c
  | 13 => byR r c
  | 15 => byR r c
  | 17 => (An.zero, r)
  | 19 => (An.zero, r)
  | 20 => (An.zero, r)
  | 18 => ({ An.zero with lens := [(r.limit : Int) - r.nodes.length] }, r)
  | _ => (failA 2, r)
def shortR (r : RM) (c : Cl) (n : Int) : An × RM :=
 if c.k ≠ 4 ∨ n < 0 ∨ (c.d.size : Int) < n then (failA 2, r)
 else match fdR r c.fd with
  | none => (failA 220, r)
  | some x => throughR r c x n.toNat
def seenR (r : RM) : Nat → Nat → Bs → List (Bs × Nat)
 | 0, k, path => [(path, k)]
 | f + 1, k, path =>
  if r.kind k ≠ 2 then [(path, k)]
  else (path, k) :: ((namesR r k).flatMap fun x => seenR r f (match r.ent k x with | some e => e.node | none => 0) ((if path = [47] then [] else path) ++ 47 :: x))
def allR (r : RM) : List (Bs × Nat) := seenR r r.nodes.length 0 [47]
def viewR (r : RM) : List It :=
 let l := numsOf ((allR r).map (·.2))
 (allR r).map fun x => ⟨x.1, numOf l x.2, r.stat x.2, r.data x.2⟩
def openedR (r : RM) : List Op :=
 let l := numsOf ((allR r).map (·.2))
 (List.range 16).filterMap fun i => match fdR r (i : Nat) with
   | some x => some ⟨i, numOf l x.n, x.a, r.size x.n⟩
   | none => none
def againR (r : RM) : RM := sweepR { r with fds := [] }
def newRM (inodes : Nat) : RM := ⟨inodes, 1, [⟨0, 2, false, []⟩], [], []⟩
end Go.Proofs.YtppdihpobokfnaaGreatDoor
set_option linter.unusedVariables false
set_option linter.unusedSimpArgs false
namespace Go.Proofs.YtppdihpobokfnaaGreatDoor
open Go Go.RowKit
def rnOf (p : Nat × Nd) : RN := ⟨p.1, p.2.kind, p.2.pin, p.2.data⟩
def Md.rn (m : Md) : List RN := m.nodes.map rnOf
structure FdSim (T : List Sl) (fs : List RF) : Prop where
 to : ∀ x ∈ fs, slotOf T (x.f : Int) = some ⟨true, (x.n : Int), (x.a : Int)⟩
 back : ∀ fd s, slotOf T fd = some s → ∃ x ∈ fs, (x.f : Int) = fd ∧ (x.n : Int) = s.n ∧ (x.a : Int) = s.a
 one : (fs.map (·.f)).Nodup
structure Sim (m : Md) (r : RM) : Prop where
 limit : r.limit = m.limit
 next : r.next = m.next
 nodes : r.nodes = m.rn
 ents : r.ents.Perm (entsOf m.nodes)
 fds : FdSim m.tab r.fds
section
variable {N : Nat} {X : Nat → Prop} {m : Md} {r : RM} {j k dir : Nat} {d x dd : Nd} {s p : Bs} {T : List Sl} {fs : List RF}
theorem Sim.nd (h : Sim m r) (k : Nat) : r.nd k = (lookK m.nodes k).map fun d => rnOf (k, d) := by
 unfold RM.nd
 rw [h.nodes, Md.rn]
 generalize m.nodes = l
 induction l with
 | nil => rfl
 | cons p l ih =>
  rw [List.map_cons, List.find?_cons, lookK_cons]
  by_cases c : p.1 = k
  · have : ((rnOf p).id == k) = true := by show (p.1 == k) = true; simpa using c
    rw [this, if_pos c]
    subst c
    rfl
  · have : ((rnOf p).id == k) = false := by show (p.1 == k) = false; simpa using c
    rw [this, if_neg c]
    exact ih
theorem Sim.kind (h : Sim m r) (k : Nat) : r.kind k = m.kd k := by
 unfold RM.kind Md.kd Md.get
 rw [h.nd]
 cases lookK m.nodes k <;> rfl
theorem Sim.data (h : Sim m r) (k : Nat) : r.data k = (m.get k).data := by
 unfold RM.data Md.get
 rw [h.nd]
 cases lookK m.nodes k <;> rfl
theorem Sim.pin (h : Sim m r) (k : Nat) : r.pin k = (m.get k).pin := by
 unfold RM.pin Md.get
 rw [h.nd]
 cases lookK m.nodes k <;> rfl
theorem Sim.kind_look (h : Sim m r) (hk : lookK m.nodes k = some d) : r.kind k = d.kind := by rw [h.kind, Md.kd_look hk]
theorem Sim.ent (hI : Inv N X m) (h : Sim m r) (dir : Nat) (s : Bs) : r.ent dir s = (lookN (m.get dir).names s).map fun k => ⟨dir, s, k⟩ := by
 unfold RM.ent
 cases hf : r.ents.find? (fun e => e.dir == dir && e.name == s) with
 | some e =>
  have h1 := List.find?_some hf
  have h2 := h.ents.mem_iff.1 (List.mem_of_find?_eq_some hf)
  simp only [Bool.and_eq_true, beq_iff_eq] at h1
  obtain ⟨d, hd, hm⟩ := hI.mem.1 h2
  rw [← h1.1, ← h1.2, Md.get_look hd, lookN_of_mem (hI.shape _ _ hd).2.1 hm]
  rfl
 | none =>
  rw [List.find?_eq_none] at hf
  cases hk : lookN (m.get dir).names s with
  | none => rfl
  | some k =>
   exfalso
   cases hd : lookK m.nodes dir with
   | none =>
    rw [Md.get, hd] at hk
    have : lookN (default : Nd).names s = none := rfl
    rw [show ((none : Option Nd).getD default) = default from rfl, this] at hk
    cases hk
   | some d =>
    rw [Md.get_look hd] at hk
    have := hf _ (h.ents.mem_iff.2 (hI.mem_look hd hk))
    simp at this
theorem Sim.par (hI : Inv N X m) (h : Sim m r) (hk : lookK m.nodes k = some d) (h2 : d.kind = 2) : r.par k = d.par := by
 unfold RM.par
 by_cases c : k = 0
 · subst c
   obtain ⟨d0, e1, _, e3⟩ := hI.root
   rw [hk] at e1
   cases e1
   have : r.ents.find? (fun e => e.node == 0) = none := by
    rw [List.find?_eq_none]
    intro e he
    have := (hI.there e (h.ents.mem_iff.1 he)).1
    simpa using this
   rw [this, e3]
 · obtain ⟨e, he, e1, e2⟩ := hI.parent hk h2 c
   cases hf : r.ents.find? (fun e => e.node == k) with
   | some e' =>
    have h1 := List.find?_some hf
    have h3 := h.ents.mem_iff.1 (List.mem_of_find?_eq_some hf)
    simp only [beq_iff_eq] at h1
    obtain ⟨_, d', hd', hp⟩ := hI.there _ h3
    rw [h1, hk] at hd'
    cases hd'
    exact (hp h2).symm
   | none =>
    rw [List.find?_eq_none] at hf
    have := hf e (h.ents.mem_iff.2 he)
    simp at this
    exact absurd e1 this
theorem Sim.links (hI : Inv N X m) (h : Sim m r) (hk : lookK m.nodes k = some d) : r.links k = d.links := by
 unfold RM.links
 rw [h.kind_look hk, hI.links k d hk]
 have e1 : (r.ents.countP fun e => e.node == k) = Cn (entsOf m.nodes) k := h.ents.countP_eq _
 have e2 : (r.ents.countP fun e => e.dir == k && r.kind e.node == 2) = Cd m.kd (entsOf m.nodes) k := by
  rw [h.ents.countP_eq]
  exact List.countP_congr fun e _ => by rw [h.kind]
 rw [e1, e2]
 rcases hI.kinds hk with q | q
 · rw [if_pos q, if_neg (by omega)]
 · rw [if_neg (by omega), if_pos q]
theorem Sim.size (hI : Inv N X m) (h : Sim m r) (hk : lookK m.nodes k = some d) : r.size k = (d.data.length : Int) + (d.names.length : Int) := by
 unfold RM.size
 rw [h.kind_look hk, h.data, Md.get_look hk]
 rcases (hI.shape k d hk).1 with ⟨q1, q2⟩ | ⟨q1, q2⟩
 · rw [if_pos q1, q2]; simp
 · rw [if_neg (by omega), q2, h.ents.countP_eq, count_dir hI.rise hk]; simp
theorem Sim.stat (hI : Inv N X m) (h : Sim m r) (hk : lookK m.nodes k = some d) : r.stat k = toldP (m.get k) := by
 unfold RM.stat toldP
 rw [h.kind_look hk, h.size hI hk, h.links hI hk, h.pin, Md.get_look hk]
theorem Sim.lead (hI : Inv N X m) (h : Sim m r) : ∀ (ps : List Bs) (k : Nat), leadR r k ps = walkFrom m k ps
 | [], k => rfl
 | p :: ps, k => by
  rw [leadR, walkFrom, h.kind]
  by_cases c : (m.get k).kind = 2
  · obtain ⟨d, hd, h2⟩ := get_kind2 c
    have hkd : ¬ (m.kd k ≠ 2) := fun q => q c
    have hst : stepP m k p = if p = [46] then ((k, 0) : Nat × Int) else if p = [46, 46] then ((d.par, 0) : Nat × Int) else match lookN d.names p with | some k => ((k, 0) : Nat × Int) | none => ((0, 210) : Nat × Int) := by
     unfold stepP
     rw [Md.get_look hd, if_neg (by simpa using h2)]
     try rfl
    rw [if_neg hkd, hst]
    by_cases c1 : p = [46]
    · rw [if_pos c1, if_pos c1, if_neg (by simp)]
      exact h.lead hI ps k
    rw [if_neg c1, if_neg c1]
    by_cases c2 : p = [46, 46]
    · rw [if_pos c2, if_pos c2, if_neg (by simp), h.par hI hd h2]
      exact h.lead hI ps d.par
    rw [if_neg c2, if_neg c2, h.ent hI, Md.get_look hd]
    cases hl : lookN d.names p with
    | none => simp
    | some i =>
     simp only [Option.map_some]
     rw [if_neg (by simp)]
     exact h.lead hI ps i
  · have hkd : m.kd k ≠ 2 := c
    have hst : stepP m k p = (0, 212) := by unfold stepP; rw [if_pos c]
    rw [if_pos hkd, hst, if_pos (by simp)]
theorem Sim.path (hI : Inv N X m) (h : Sim m r) (p : Bs) : pathR r p = findP m p := by
 unfold pathR findP
 rw [h.lead hI]
theorem Sim.place (hI : Inv N X m) (h : Sim m r) (p : Bs) : placeR r p = locateP m p := by
 unfold placeR locateP locParts
 congr 1
 cases (splitP p).1.getLast? with
 | none => rfl
 | some x =>
  simp only []
  rw [h.lead hI, h.kind]
  congr 1
  congr 1
  show (if (m.get _).kind ≠ 2 then _ else _) = _
  congr 1
  rw [h.ent hI]
  cases lookN (m.get (walkFrom m 0 (splitP p).1.dropLast).1).names x <;> rfl
theorem FdSim.lt (h : FdSim T fs) {x : RF} (hx : x ∈ fs) : x.f < 16 := by
 obtain ⟨_, h2, _⟩ := slotOf_some (h.to x hx)
 omega
theorem FdSim.mem (h : FdSim T fs) {x y : RF} (hx : x ∈ fs) (hy : y ∈ fs) (e : x.f = y.f) : x = y := by
 have h1 := h.to x hx
 have h2 := h.to y hy
 rw [e, h2] at h1
 injection h1 with h1
 simp only [Sl.mk.injEq, true_and] at h1
 cases x
 cases y
 simp only at *
 subst e
 obtain ⟨q1, q2⟩ := h1
 have q1 := Int.ofNat_inj.1 q1
 have q2 := Int.ofNat_inj.1 q2
 subst q1 q2
 rfl
theorem FdSim.none (h : FdSim T fs) {fd : Int} (hs : slotOf T fd = Option.none) : fs.find? (fun x => (x.f : Int) == fd) = Option.none := by
 rw [List.find?_eq_none]
 intro x hx
 have := h.to x hx
 intro e
 have e : (x.f : Int) = fd := by simpa using e
 rw [e, hs] at this
 cases this
theorem FdSim.some (h : FdSim T fs) {fd : Int} {s : Sl} (hs : slotOf T fd = Option.some s) : ∃ x ∈ fs, fs.find? (fun x => (x.f : Int) == fd) = Option.some x ∧ (x.f : Int) = fd ∧ (x.n : Int) = s.n ∧ (x.a : Int) = s.a := by
 obtain ⟨x, hx, e1, e2, e3⟩ := h.back fd s hs
 cases hf : fs.find? (fun x => (x.f : Int) == fd) with
 | none =>
  rw [List.find?_eq_none] at hf
  have := hf x hx
  simp at this
  exact absurd e1 this
 | some y =>
  have h1 := List.find?_some hf
  have h2 := List.mem_of_find?_eq_some hf
  have h1 : (y.f : Int) = fd := by simpa using h1
  have : y = x := h.mem h2 hx (by omega)
  subst this
  exact ⟨y, hx, rfl, e1, e2, e3⟩
theorem FdSim.has (hT : T.length = 16) (h : FdSim T fs) (k : Nat) : (fs.any fun x => x.n == k) = tHas T (k : Int) := by
 rw [Bool.eq_iff_iff, List.any_eq_true]
 constructor
 · rintro ⟨x, hx, e⟩
   have e : x.n = k := by simpa using e
   have := slotOf_has (h.to x hx)
   rw [← e]
   exact this
 · intro hh
   obtain ⟨fd, s, h1, h2⟩ := has_slotOf hT hh
   obtain ⟨x, hx, _, e2, _⟩ := h.back fd s h1
   exact ⟨x, hx, by rw [beq_iff_eq]; omega⟩
theorem slot_closed (hT : T.length = 16) {i : Nat} (hi : i < 16) : slotOf T (i : Int) = Option.none ↔ ∃ s, T[i]? = Option.some s ∧ s.o = false := by
 unfold slotOf
 rw [if_pos (by omega), Int.toNat_natCast]
 rw [List.getElem?_eq_getElem (by omega : i < T.length)]
 cases ho : (T[i]'(by omega)).o <;> simp [Option.filter, ho]
theorem FdSim.full (hT : T.length = 16) (h : FdSim T fs) : (16 ≤ fs.length) ↔ tFull T = true := by
 constructor
 · intro hl
   refine Classical.byContradiction fun hn => ?_
   unfold tFull at hn
   rw [List.all_eq_true] at hn
   obtain ⟨s, hs, ho⟩ : ∃ s ∈ T, s.o = false := by
    refine Classical.byContradiction fun q => hn fun s hs => ?_
    cases ho : s.o with
    | true => rfl
    | false => exact absurd ⟨s, hs, ho⟩ q
   obtain ⟨i, hi, e⟩ := List.getElem_of_mem hs
   have hc := (slot_closed hT (show i < 16 by omega)).2 ⟨s, by rw [List.getElem?_eq_getElem hi, e], ho⟩
   have := nodup_len h.one (l' := (List.range 16).erase i) (fun f hf => by
    obtain ⟨x, hx, rfl⟩ := List.mem_map.1 hf
    have hlt := h.lt hx
    refine (List.mem_erase_of_ne ?_).2 (List.mem_range.2 hlt)
    intro e
    have := h.to x hx
    rw [e, hc] at this
    cases this)
   rw [List.length_erase_of_mem (List.mem_range.2 (by omega)), List.length_map, List.length_range] at this
   omega
 · intro hf
   have := nodup_len (List.nodup_range (n := 16)) (l' := fs.map (·.f)) (fun i hi => by
    have hi := List.mem_range.1 hi
    unfold tFull at hf
    rw [List.all_eq_true] at hf
    cases hs : slotOf T (i : Int) with
    | none =>
     obtain ⟨s, h1, h2⟩ := (slot_closed hT hi).1 hs
     have := hf s (List.mem_of_getElem? h1)
     rw [h2] at this
     cases this
    | some s =>
     obtain ⟨x, hx, e1, _⟩ := h.back _ s hs
     exact List.mem_map.2 ⟨x, hx, by omega⟩)
   simpa using this
theorem FdSim.free (hT : T.length = 16) (h : FdSim T fs) : ((List.range 16).find? fun i => (fs.find? (fun x => (x.f : Int) == ((i : Nat) : Int))).isNone) = firstFree T := by
 have key : ∀ i, i < 16 → (fs.find? (fun x => (x.f : Int) == ((i : Nat) : Int))).isNone = !(T[i]?.getD Sl.none).o := fun i hi => by
  cases hs : slotOf T (i : Int) with
  | none =>
   rw [h.none hs]
   obtain ⟨s, h1, h2⟩ := (slot_closed hT hi).1 hs
   rw [h1]
   simp [h2]
  | some s =>
   obtain ⟨x, _, e, _⟩ := h.some hs
   rw [e]
   obtain ⟨_, _, h1, h2⟩ := slotOf_some hs
   rw [Int.toNat_natCast] at h1
   rw [h1]
   simp [h2]
 unfold firstFree
 cases hf : T.findIdx? (fun s => !s.o) with
 | none =>
  rw [List.findIdx?_eq_none_iff] at hf
  rw [List.find?_eq_none]
  intro i hi
  have hi := List.mem_range.1 hi
  rw [key i hi, List.getElem?_eq_getElem (by omega)]
  have := hf (T[i]'(by omega)) (List.getElem_mem _)
  simpa using this
 | some i =>
  obtain ⟨h1, h2, h3⟩ := List.findIdx?_eq_some_iff_getElem.1 hf
  rw [List.find?_eq_some_iff_getElem]
  have hi : i < 16 := by omega
  refine ⟨by rw [key i hi, List.getElem?_eq_getElem h1]; simpa using h2, i, by simpa using hi, by simp, fun j hj => ?_⟩
  rw [List.getElem_range, key j (by omega), List.getElem?_eq_getElem (by omega)]
  have := h3 j hj
  simpa using this
theorem FdSim.seek (hT : T.length = 16) (h : FdSim T fs) {fd : Int} {s : Sl} (hs : slotOf T fd = Option.some s) {z : Nat} (hz : z ≤ 262144) : FdSim (tSeek T fd (z : Int)).1 (fs.map fun x => if (x.f : Int) = fd then ⟨x.f, x.n, z⟩ else x) := by
 obtain ⟨g0, g1, g2, g3⟩ := slotOf_some hs
 obtain ⟨i, rfl⟩ := Int.eq_ofNat_of_zero_le g0
 have e1 : (tSeek T (i : Int) (z : Int)).1 = T.set i ⟨s.o, s.n, (z : Int)⟩ := by
  unfold tSeek
  rw [hs]
  simp only []
  rw [if_neg (by omega), Int.toNat_natCast]
 have hi : i < 16 := by omega
 rw [e1]
 have hsl : ∀ fd, slotOf (T.set i ⟨s.o, s.n, (z : Int)⟩) fd = if fd = (i : Int) then Option.some ⟨true, s.n, (z : Int)⟩ else slotOf T fd := fun fd => by
  rw [slotOf_set hT hi]
  simp only [g3, if_true]
 refine ⟨fun x hx => ?_, fun fd t ht => ?_, ?_⟩
 · obtain ⟨y, hy, rfl⟩ := List.mem_map.1 hx
   rw [hsl]
   by_cases c : (y.f : Int) = (i : Int)
   · have h1 := h.to y hy
     rw [c, hs] at h1
     injection h1 with h1
     simp only [if_pos c]
     rw [h1]
   · simp only [if_neg c]
     exact h.to y hy
 · rw [hsl] at ht
   by_cases c : fd = (i : Int)
   · rw [if_pos c] at ht
     cases ht
     obtain ⟨y, hy, a1, a2, a3⟩ := h.back _ s hs
     exact ⟨⟨y.f, y.n, z⟩, List.mem_map.2 ⟨y, hy, by rw [if_pos a1]⟩, by rw [c]; exact a1, a2, rfl⟩
   · rw [if_neg c] at ht
     obtain ⟨y, hy, a1, a2, a3⟩ := h.back fd t ht
     exact ⟨y, List.mem_map.2 ⟨y, hy, by rw [if_neg (by omega)]⟩, a1, a2, a3⟩
 · have e : (fs.map fun x => if (x.f : Int) = (i : Int) then (⟨x.f, x.n, z⟩ : RF) else x).map (·.f) = fs.map (·.f) := by
    rw [List.map_map]
    refine List.map_congr_left fun x _ => ?_
    simp only [Function.comp_apply]
    split <;> rfl
   rw [e]
   exact h.one
theorem FdSim.drop (hT : T.length = 16) (h : FdSim T fs) {fd : Int} {s : Sl} (hs : slotOf T fd = Option.some s) : FdSim (tClose T fd).1 (fs.eraseP fun x => (x.f : Int) == fd) := by
 obtain ⟨g0, g1, g2, g3⟩ := slotOf_some hs
 obtain ⟨i, rfl⟩ := Int.eq_ofNat_of_zero_le g0
 have e1 : (tClose T (i : Int)).1 = T.set i Sl.none := by
  unfold tClose
  rw [hs]
  simp only [Int.toNat_natCast]
 have hi : i < 16 := by omega
 rw [e1]
 have hsl : ∀ fd, slotOf (T.set i Sl.none) fd = if fd = (i : Int) then Option.none else slotOf T fd := fun fd => by
  rw [slotOf_set hT hi]
  rfl
 obtain ⟨x, hx, a1, a2, a3⟩ := h.back _ s hs
 have hmem : ∀ y, y ∈ fs.eraseP (fun x => (x.f : Int) == (i : Int)) ↔ y ∈ fs ∧ (y.f : Int) ≠ (i : Int) := fun y => by
  obtain ⟨a, l1, l2, b1, b2, b3, b4⟩ := List.exists_of_eraseP hx (p := fun x : RF => (x.f : Int) == (i : Int)) (by simpa using a1)
  rw [b4]
  have hn := h.one
  rw [b3, List.map_append, List.map_cons, List.nodup_append] at hn
  obtain ⟨n1, n2, n3⟩ := hn
  have b2 : (a.f : Int) = (i : Int) := by simpa using b2
  constructor
  · intro hy
    refine ⟨by rw [b3]; rcases List.mem_append.1 hy with q | q <;> simp [q], ?_⟩
    rcases List.mem_append.1 hy with q | q
    · have := n3 y.f (List.mem_map.2 ⟨y, q, rfl⟩) a.f (by simp)
      omega
    · have := (List.nodup_cons.1 n2).1
      intro e
      exact this (List.mem_map.2 ⟨y, q, by omega⟩)
  · rintro ⟨hy, hne⟩
    rw [b3] at hy
    rcases List.mem_append.1 hy with q | q
    · exact List.mem_append.2 (.inl q)
    · rcases List.mem_cons.1 q with rfl | q
      · exact absurd b2 hne
      · exact List.mem_append.2 (.inr q)
 refine ⟨fun y hy => ?_, fun fd t ht => ?_, ?_⟩
 · obtain ⟨hy, hne⟩ := (hmem y).1 hy
   rw [hsl, if_neg hne]
   exact h.to y hy
 · rw [hsl] at ht
   by_cases c : fd = (i : Int)
   · rw [if_pos c] at ht; cases ht
   · rw [if_neg c] at ht
     obtain ⟨y, hy, b1, b2⟩ := h.back fd t ht
     exact ⟨y, (hmem y).2 ⟨hy, by omega⟩, b1, b2⟩
 · refine List.Nodup.sublist ?_ h.one
   exact List.Sublist.map _ (List.eraseP_sublist ..)
theorem FdSim.opened (hT : T.length = 16) (h : FdSim T fs) {i : Nat} (hi : i < 16) (hs : slotOf T (i : Int) = Option.none) (k : Nat) : FdSim (T.set i ⟨true, (k : Int), 0⟩) (fs ++ [⟨i, k, 0⟩]) := by
 have hsl : ∀ fd, slotOf (T.set i ⟨true, (k : Int), 0⟩) fd = if fd = (i : Int) then Option.some ⟨true, (k : Int), 0⟩ else slotOf T fd := fun fd => by
  rw [slotOf_set hT hi]
  rfl
 refine ⟨fun x hx => ?_, fun fd t ht => ?_, ?_⟩
 · rw [hsl]
   rcases List.mem_append.1 hx with hx | hx
   · have := h.to x hx
     rw [if_neg]
     · exact this
     · intro e
       rw [e, hs] at this
       cases this
   · rw [List.mem_singleton.1 hx]
     simp
 · rw [hsl] at ht
   by_cases c : fd = (i : Int)
   · rw [if_pos c] at ht
     cases ht
     exact ⟨⟨i, k, 0⟩, by simp, c.symm, rfl, rfl⟩
   · rw [if_neg c] at ht
     obtain ⟨y, hy, b1, b2⟩ := h.back fd t ht
     exact ⟨y, List.mem_append.2 (.inl hy), b1, b2⟩
 · rw [List.map_append, List.nodup_append]
   refine ⟨h.one, by simp, fun a ha b hb => ?_⟩
   have hb : b = i := by simpa using hb
   obtain ⟨x, hx, rfl⟩ := List.mem_map.1 ha
   intro e
   have := h.to x hx
   rw [e, hb, hs] at this
   cases this
end
end Go.Proofs.YtppdihpobokfnaaGreatDoor
set_option linter.unusedVariables false
set_option linter.unusedSimpArgs false
namespace Go.Proofs.YtppdihpobokfnaaGreatDoor
open Go Go.RowKit
section
variable {N : Nat} {X : Nat → Prop} {m m' : Md} {r r1 : RM} {j k dir : Nat} {d x dd : Nd} {s p : Bs} {f : Nd → Nd} {F : RN → RN}
theorem rn_setF (hf : ∀ (j : Nat) (d : Nd), rnOf (j, f d) = F (rnOf (j, d))) : (m.set k f).rn = m.rn.map fun n => if n.id = k then F n else n := by
 unfold Md.rn Md.set setK
 simp only [List.map_map]
 refine List.map_congr_left fun p _ => ?_
 simp only [Function.comp_apply]
 by_cases c : p.1 = k
 · rw [if_pos c, if_pos (show (rnOf p).id = k from c)]
   exact hf p.1 p.2
 · rw [if_neg c, if_neg (show ¬ (rnOf p).id = k from c)]
theorem rn_set (hf : ∀ d, (f d).kind = d.kind ∧ (f d).pin = d.pin ∧ (f d).data = d.data) : (m.set k f).rn = m.rn := by
 rw [rn_setF (F := fun n => n) (fun j d => by unfold rnOf; simp only [(hf d).1, (hf d).2.1, (hf d).2.2])]
 rw [show (fun n : RN => if n.id = k then n else n) = id from by funext n; simp]
 simp
theorem rn_unname : (unnameP m dir s).rn = m.rn := rn_set fun _ => ⟨rfl, rfl, rfl⟩
theorem rn_link : (linkP m dir s k).rn = m.rn := rn_set fun _ => ⟨rfl, rfl, rfl⟩
theorem rn_links {z : Int} : (linksP m k z).rn = m.rn := rn_set fun _ => ⟨rfl, rfl, rfl⟩
theorem rn_len : m.rn.length = m.nodes.length := by simp [Md.rn]
theorem rn_gone : ∃ Q : Nat → Bool, (goneP m k).rn = m.rn.filter fun n => Q n.id := by
 unfold goneP
 split
 · refine ⟨fun i => !(i == k), ?_⟩
   unfold Md.rn
   simp only []
   rw [List.filter_map]
   rfl
 · exact ⟨fun _ => true, by rw [List.filter_eq_self.2 (fun _ _ => rfl)]⟩
theorem rn_drop {a : Pl} : ∃ Q : Nat → Bool, (dropP m a).rn = m.rn.filter fun n => Q n.id := by
 unfold dropP
 simp only
 split
 · obtain ⟨Q, h⟩ := rn_gone (m := linksP (((linksP (unnameP m a.dir a.name) a.node.toNat (-1))).set a.node.toNat fun n => { n with links := 0 }) a.dir (-1)) (k := a.node.toNat)
   refine ⟨Q, h.trans ?_⟩
   rw [rn_links, rn_set (f := fun n => { n with links := 0 }) (fun _ => ⟨rfl, rfl, rfl⟩), rn_links, rn_unname]
 · obtain ⟨Q, h⟩ := rn_gone (m := linksP (unnameP m a.dir a.name) a.node.toNat (-1)) (k := a.node.toNat)
   refine ⟨Q, h.trans ?_⟩
   rw [rn_links, rn_unname]
theorem sweep_sim (hI : Inv N Nul m') (hl : r1.limit = m'.limit) (hn : r1.next = m'.next) (he : r1.ents.Perm (entsOf m'.nodes)) (hf : FdSim m'.tab r1.fds) {Q : Nat → Bool} (hQ : m'.rn = r1.nodes.filter fun n => Q n.id) : Sim m' (sweepR r1) := by
 have lq : ∀ k d, lookK m'.nodes k = some d → Q k = true := fun k d hk => by
  have h1 : rnOf (k, d) ∈ m'.rn := List.mem_map_of_mem (lookK_mem hk)
  rw [hQ] at h1
  exact (List.mem_filter.1 h1).2
 refine ⟨hl, hn, ?_, he, hf⟩
 show r1.nodes.filter (fun n => staysR r1 n.id) = m'.rn
 rw [hQ]
 refine List.filter_congr fun n hn => ?_
 unfold staysR
 rw [Bool.eq_iff_iff, Bool.or_eq_true, Bool.or_eq_true, hf.has hI.tab16]
 constructor
 · rintro ((q | q) | q)
   · obtain ⟨d0, h1, _⟩ := hI.root
     have q : n.id = 0 := by simpa using q
     rw [q]
     exact lq 0 d0 h1
   · obtain ⟨e, h1, h2⟩ := List.any_eq_true.1 q
     have h2 : e.node = n.id := by simpa using h2
     obtain ⟨_, d1, h3, _⟩ := hI.there e (he.mem_iff.1 h1)
     rw [← h2]
     exact lq _ d1 h3
   · obtain ⟨fd, s, h1, h2⟩ := has_slotOf hI.tab16 q
     obtain ⟨_, _, i, d1, h3, h4, _⟩ := hI.tab fd s h1
     have : n.id = i := by omega
     rw [this]
     exact lq _ d1 h4
 · intro q
   have h1 : n ∈ m'.rn := by rw [hQ]; exact List.mem_filter.2 ⟨hn, q⟩
   obtain ⟨p, h2, rfl⟩ := List.mem_map.1 h1
   show (((rnOf p).id == 0) = true ∨ _) ∨ _
   have e : (rnOf p).id = p.1 := rfl
   rw [e]
   by_cases c : p.1 = 0
   · exact .inl (.inl (by simpa using c))
   · rcases hI.live p.1 p.2 (look_mem hI.rise h2) c with h3 | h3 | h3
     · exact h3.elim
     · obtain ⟨e, h4, h5⟩ := Cn_pos.1 h3
       exact .inl (.inr (List.any_eq_true.2 ⟨e, he.mem_iff.2 h4, by simpa using h5⟩))
     · exact .inr h3
theorem erase_ents (hI : Inv N X m) (he : r.ents.Perm (entsOf m.nodes)) {E' : List En} (hE : (entsOf m.nodes).Perm (⟨dir, s, k⟩ :: E')) : (unnameR r dir s).ents.Perm E' := by
 show (r.ents.eraseP fun e => e.dir == dir && e.name == s).Perm E'
 have h0 : (⟨dir, s, k⟩ : En) ∈ r.ents := he.mem_iff.2 (hE.mem_iff.2 (by simp))
 obtain ⟨a, l1, l2, b1, b2, b3, b4⟩ := List.exists_of_eraseP (p := fun e : En => e.dir == dir && e.name == s) h0 (by simp)
 have ha : a = ⟨dir, s, k⟩ := by
  have h1 : a ∈ entsOf m.nodes := he.mem_iff.1 (by rw [b3]; simp)
  have h2 := he.mem_iff.1 h0
  simp only [Bool.and_eq_true, beq_iff_eq] at b2
  obtain ⟨d1, g1, g2⟩ := hI.mem.1 h1
  obtain ⟨d2, g3, g4⟩ := hI.mem.1 h2
  simp only [] at g3 g4
  rw [b2.1, g3] at g1
  cases g1
  have e1 := lookN_of_mem (hI.shape _ _ g3).2.1 g2
  have e2 := lookN_of_mem (hI.shape _ _ g3).2.1 g4
  rw [b2.2, e2] at e1
  cases a
  simp only at b2 e1
  obtain ⟨rfl, rfl⟩ := b2
  injection e1 with e1
  rw [e1]
 rw [b4]
 have h3 : (a :: (l1 ++ l2)).Perm (⟨dir, s, k⟩ :: E') := by
  refine List.Perm.trans ?_ (he.trans hE)
  rw [b3]
  exact List.perm_middle.symm
 rw [ha] at h3
 exact h3.cons_inv
theorem Sim.made (hI : Inv N X m) (h : Sim m r) {a : Pl} (kind : Int) (hdd : lookK m.nodes a.dir = some dd) (hs : lookN dd.names a.name = none) : (make1R r a kind).1 = (freshP m a kind).1 ∧ Sim (freshP m a kind).2 (make1R r a kind).2 := by
 unfold make1R freshP
 rw [h.limit, h.nodes, rn_len, h.next]
 by_cases c : m.limit ≤ m.nodes.length
 · rw [if_pos c, if_pos c]
   exact ⟨rfl, h⟩
 · rw [if_neg c, if_neg c]
   refine ⟨rfl, ⟨rfl, rfl, ?_, ?_, h.fds⟩⟩
   · refine Eq.trans ?_ (rn_set (m := ({ m with next := m.next + 1, nodes := m.nodes ++ [(m.next, freshN kind a.dir)] } : Md)) (k := a.dir) (f := fun n => { n with names := putN n.names a.name m.next }) fun _ => ⟨rfl, rfl, rfl⟩).symm
     simp [Md.rn, rnOf, freshN]
   · have hr : Rise (m.nodes ++ [(m.next, freshN kind a.dir)]) := rise_append hI.rise hI.lt
     have hl : lookK (m.nodes ++ [(m.next, freshN kind a.dir)]) a.dir = some dd := by rw [lookK_append, hdd]
     have h1 := ents_put (f := fun n : Nd => { n with names := putN n.names a.name m.next }) hr hl hs rfl
     rw [ents_append (by rfl)] at h1
     refine List.Perm.trans ?_ h1.symm
     refine List.perm_append_comm.trans ?_
     exact h.ents.cons _
theorem drop_all (hI : Inv N Nul m) {b : Pl} (hdd : lookK m.nodes b.dir = some dd) (hs : lookN dd.names b.name = some k) (hb : b.node = (k : Int)) (hk : lookK m.nodes k = some d) (hn : d.kind = 2 → d.names = []) :
  Inv N Nul (dropP m b) ∧ (entsOf m.nodes).Perm (⟨b.dir, b.name, k⟩ :: entsOf (dropP m b).nodes) ∧ (dropP m b).tab = m.tab ∧ (dropP m b).limit = m.limit ∧ (dropP m b).next = m.next := by
 have htab : (dropP m b).tab = m.tab ∧ (dropP m b).limit = m.limit ∧ (dropP m b).next = m.next := by
  unfold dropP
  simp only
  unfold goneP
  split <;> split <;> exact ⟨rfl, rfl, rfl⟩
 rcases hI.kinds hk with h1 | h2
 · have e : dropP m b = goneP (linksP (unnameP m b.dir b.name) k (-1)) k := by
    unfold dropP
    simp only [hb, Int.toNat_natCast, Md.get_look hk]
    rw [if_neg (by omega)]
   have hU := hI.unlinked hdd hs hk h1
   have hE : (entsOf m.nodes).Perm (⟨b.dir, b.name, k⟩ :: entsOf (linksP (unnameP m b.dir b.name) k (-1)).nodes) := by
    rw [ents_links]
    exact ents_unname hI.rise hdd (hI.shape _ _ hdd).2.1 hs
   have hkk : ∀ d', lookK (linksP (unnameP m b.dir b.name) k (-1)).nodes k = some d' → d'.kind = 1 ∧ d'.names = [] := fun d' hd' => by
    have hu := (Upd.set m b.dir fun n => { n with names := delN n.names b.name }).trans (Upd.set (unnameP m b.dir b.name) k fun n => { n with links := n.links + (-1) })
    obtain ⟨y, y1, y2⟩ := hu.inv hd'
    rw [hk] at y1
    cases y1
    have hf : d.names = [] := by
     rcases (hI.shape k d hk).1 with ⟨_, q⟩ | ⟨q, _⟩
     · exact q
     · omega
    rw [y2]
    by_cases q1 : k = b.dir <;> simp [q1, h1, hf, delN]
   refine ⟨by rw [e]; exact hU.gone fun d' hd' => (hkk d' hd').1, ?_, htab⟩
   rw [e]
   refine hE.trans (List.Perm.cons _ ?_)
   unfold goneP
   split
   · show (entsOf _).Perm (entsOf ((linksP (unnameP m b.dir b.name) k (-1)).nodes.filter fun p => !(p.1 == k)))
     cases hl : lookK (linksP (unnameP m b.dir b.name) k (-1)).nodes k with
     | none =>
      rw [List.filter_eq_self.2 (fun p hp => by
       have h9 : p.1 ≠ k := fun q => by
        have := look_mem hU.rise (k := p.1) (d := p.2) hp
        rw [q, hl] at this
        cases this
       simpa using h9)]
     | some d' => rw [ents_gone hU.rise hl (hkk d' hl).2]
   · exact List.Perm.refl _
 · obtain ⟨i1, _, i3⟩ := hI.rmdir hdd hs hb hk h2 (hn h2)
   exact ⟨i1, i3, htab⟩
end
def SimO (p : An × Md) (q : An × RM) : Prop := q.1 = p.1 ∧ Sim p.2 q.2
section
variable {N : Nat} {m m' : Md} {r r1 : RM} {j k dir : Nat} {d x dd : Nd} {s p : Bs}
theorem Sim.fail (h : Sim m r) (e : Int) : SimO (failA e, m) (failA e, r) := ⟨rfl, h⟩
theorem Sim.zero (h : Sim m r) : SimO (An.zero, m) (An.zero, r) := ⟨rfl, h⟩
theorem Sim.fd_none (h : Sim m r) {fd : Int} (hs : slotOf m.tab fd = none) : fdR r fd = none := h.fds.none hs
theorem Sim.fd_some (h : Sim m r) {fd : Int} {s : Sl} (hs : slotOf m.tab fd = some s) : ∃ x ∈ r.fds, fdR r fd = some x ∧ (x.f : Int) = fd ∧ (x.n : Int) = s.n ∧ (x.a : Int) = s.a := h.fds.some hs
theorem Sim.seek (hI : Inv N Nul m) (h : Sim m r) {fd : Int} {s : Sl} (hs : slotOf m.tab fd = some s) {z : Nat} (hz : z ≤ 262144) : Sim { m with tab := (tSeek m.tab fd (z : Int)).1 } (setF r fd z) :=
 ⟨h.limit, h.next, h.nodes, h.ents, h.fds.seek hI.tab16 hs hz⟩
theorem seek_stay {T : List Sl} {fd : Int} {s : Sl} (hs : slotOf T fd = some s) (h0 : 0 ≤ s.a ∧ s.a ≤ 262144) : (tSeek T fd s.a).1 = T := by
 obtain ⟨g0, g1, g2, g3⟩ := slotOf_some hs
 unfold tSeek
 rw [hs]
 simp only []
 rw [if_neg (by omega)]
 show T.set fd.toNat ⟨s.o, s.n, s.a⟩ = T
 obtain ⟨hlt, e⟩ := List.getElem?_eq_some_iff.1 g2
 rw [show (⟨s.o, s.n, s.a⟩ : Sl) = T[fd.toNat] from e.symm]
 exact List.set_getElem_self hlt
theorem over_grow (l b : Bs) (a : Nat) : overB (growB l (a + b.length)) a b = overB (growB l a) a b := by
 unfold overB
 have h1 : (growB l (a + b.length)).take a = (growB l a).take a := by
  unfold growB
  rw [List.take_append, List.take_append, List.take_replicate, List.take_replicate]
  congr 2
  omega
 have h2 : (growB l (a + b.length)).drop (a + b.length) = (growB l a).drop (a + b.length) := by
  unfold growB
  rw [List.drop_append, List.drop_append, List.drop_replicate, List.drop_replicate]
  congr 2
  omega
 rw [h1, h2]
theorem Sim.through (hI : Inv N Nul m) (h : Sim m r) (c : Cl) (hb : byFd c.k = true) : SimO (doP m c) (doR r c) := by
 have hG : ∀ m', m' = (doP m c).2 → N ≤ 0 → True := fun _ _ _ => trivial
 unfold doR
 rw [if_pos hb]
 cases hs : slotOf m.tab c.fd with
 | none =>
  rw [h.fd_none hs]
  simp only []
  have hd : doP m c = (failA 220, m) := by
   unfold byFd at hb
   simp only [Bool.or_eq_true, beq_iff_eq] at hb
   unfold doP
   rcases hb with (((((q | q) | q) | q) | q) | q) | q <;> rw [q]
   · show closeP m c = _
     unfold closeP tClose
     rw [hs]; simp
   · show readP m c = _
     unfold readP
     rw [hs]
   · show putP m c _ = _
     unfold putP
     rw [hs]
   · show seekP m c = _
     unfold seekP tSeek
     rw [hs]; simp
   · show resizeP m c = _
     unfold resizeP
     rw [hs]
   · show (fstatP m c, m) = _
     unfold fstatP
     rw [hs]
   · show (sameP m c, m) = _
     unfold sameP
     rw [hs]
  rw [hd]
  exact h.fail 220
 | some s =>
  obtain ⟨x, hx, hfx, x1, x2, x3⟩ := h.fd_some hs
  rw [hfx]
  simp only []
  obtain ⟨s1, s2, s3, s4⟩ := slotOf_some hs
  obtain ⟨a1, a2, k, d, a3, a4, a5⟩ := hI.tab _ s hs
  have hxn : x.n = k := by omega
  have hsn : s.n.toNat = k := by omega
  have hsa : s.a.toNat = x.a := by omega
  have hIc : Inv N Nul (closeP m c).2 := hI.closeP c
  unfold byFd at hb
  simp only [Bool.or_eq_true, beq_iff_eq] at hb
  unfold doP throughR
  rcases hb with (((((q | q) | q) | q) | q) | q) | q <;> rw [q]
  · -- close
    show SimO (closeP m c) (An.zero, sweepR (dropF r c.fd))
    have e1 : closeP m c = (An.zero, (closeP m c).2) := by
     refine Prod.ext ?_ rfl
     unfold closeP tClose
     rw [hs]
     rfl
    rw [e1]
    refine ⟨rfl, ?_⟩
    have hrn : ∃ Q : Nat → Bool, (closeP m c).2.rn = m.rn.filter fun n => Q n.id := by
     unfold closeP
     simp only
     split
     · exact rn_gone (m := { m with tab := (tClose m.tab c.fd).1 })
     · exact ⟨fun _ => true, by rw [List.filter_eq_self.2 (fun _ _ => rfl)]; rfl⟩
    obtain ⟨Q, hQ⟩ := hrn
    have hsame : (closeP m c).2.tab = (tClose m.tab c.fd).1 ∧ (closeP m c).2.limit = m.limit ∧ (closeP m c).2.next = m.next := by
     unfold closeP
     simp only
     split
     · unfold goneP
       split <;> exact ⟨rfl, rfl, rfl⟩
     · exact ⟨rfl, rfl, rfl⟩
    have hents : entsOf (closeP m c).2.nodes = entsOf m.nodes := by
     unfold closeP
     simp only
     split
     · unfold goneP
       split
       · show entsOf (m.nodes.filter fun p => !(p.1 == _)) = entsOf m.nodes
         have e2 : (tClose m.tab c.fd).2.1.toNat = k := by
          unfold tClose
          rw [hs]
          exact hsn
         rw [e2]
         refine ents_gone hI.rise a4 ?_
         rcases (hI.shape k d a4).1 with ⟨_, q⟩ | ⟨q, _⟩
         · exact q
         · omega
       · rfl
     · rfl
    refine sweep_sim hIc ?_ ?_ ?_ ?_ (Q := Q) ?_
    · rw [hsame.2.1]; exact h.limit
    · rw [hsame.2.2]; exact h.next
    · rw [hents]; exact h.ents
    · rw [hsame.1]; exact h.fds.drop hI.tab16 hs
    · rw [hQ, ← h.nodes]; rfl
  · -- read
    show SimO (readP m c) _
    unfold readP
    rw [hs]
    simp only []
    by_cases c1 : c.n < 0 ∨ 1024 < c.n
    · rw [if_pos c1, if_pos c1]; exact h.fail _
    rw [if_neg c1, if_neg c1, h.data, hxn, hsn, hsa, Md.get_look a4]
    have hdl := (hI.shape k d a4).2.2
    by_cases c2 : d.data.length < x.a
    · rw [if_pos c2]
      have e1 : (d.data.drop x.a).take c.n.toNat = [] := by rw [List.drop_of_length_le (by omega)]; simp
      simp only [e1, List.length_nil]
      have e2 : s.a + ((0 : Nat) : Int) = s.a := by omega
      rw [e2, seek_stay hs ⟨a1, a2⟩]
      exact ⟨rfl, h⟩
    · rw [if_neg c2]
      obtain ⟨o, ho⟩ : ∃ o, o = ((d.data.drop x.a).take c.n.toNat) := ⟨_, rfl⟩
      have hol : x.a + o.length ≤ 262144 := by
       rw [ho, List.length_take, List.length_drop]
       omega
      simp only [← ho]
      have e2 : s.a + (o.length : Int) = ((x.a + o.length : Nat) : Int) := by omega
      rw [e2]
      exact ⟨rfl, h.seek hI hs hol⟩
  · -- write
    show SimO (putP m c c.d.size) _
    unfold putP
    rw [hs]
    simp only []
    by_cases c1 : 1024 < c.d.size
    · rw [if_pos c1, if_pos c1]; exact h.fail _
    rw [if_neg c1, if_neg c1]
    by_cases c2 : 262144 < x.a + c.d.size
    · rw [if_pos c2, if_pos (by omega)]; exact h.fail _
    rw [if_neg c2, if_neg (by omega)]
    by_cases c3 : c.d.size = 0
    · rw [if_pos c3, if_pos c3]; exact h.zero
    rw [if_neg c3, if_neg c3]
    refine ⟨rfl, ?_⟩
    simp only []
    have e2 : s.a + (c.d.size : Int) = ((x.a + c.d.size : Nat) : Int) := by omega
    have hs2 : Sim (m.set s.n.toNat fun n => { n with data := overB (growB n.data (s.a.toNat + c.d.size)) s.a.toNat ((bts c.d).take c.d.size) }) (setR r x.n fun n => { n with data := overB (growB n.data x.a) x.a ((bts c.d).take c.d.size) }) := by
     refine ⟨h.limit, h.next, ?_, ?_, h.fds⟩
     · rw [hsn, hsa, hxn]
       refine Eq.trans ?_ (rn_setF (F := fun n => { n with data := overB (growB n.data x.a) x.a ((bts c.d).take c.d.size) }) fun j d => ?_).symm
       · show r.nodes.map _ = _
         rw [h.nodes]
       · have hl : ((bts c.d).take c.d.size).length = c.d.size := by rw [List.length_take, bts_length]; omega
         have := over_grow d.data ((bts c.d).take c.d.size) x.a
         rw [hl] at this
         unfold rnOf
         simp only [this]
     · refine h.ents.trans (List.Perm.of_eq (Eq.symm (ents_attr ?_)))
       exact fun _ => rfl
    have hI2 := (hI.putP c (many := c.d.size) (Nat.le_refl _)).tab16
    have h16 : (m.set s.n.toNat fun n => { n with data := overB (growB n.data (s.a.toNat + c.d.size)) s.a.toNat ((bts c.d).take c.d.size) }).tab = m.tab := rfl
    refine ⟨hs2.limit, hs2.next, hs2.nodes, hs2.ents, ?_⟩
    simp only [h16, e2]
    exact h.fds.seek hI.tab16 hs (by omega)
  · -- seek
    show SimO (seekP m c) _
    unfold seekP
    simp only []
    by_cases c1 : c.n < 0 ∨ 262144 < c.n
    · have : tSeek m.tab c.fd c.n = (m.tab, 216) := by unfold tSeek; rw [hs]; simp only []; rw [if_pos c1]
      rw [this, if_pos c1, if_pos (by simp)]
      exact h.fail _
    · have : (tSeek m.tab c.fd c.n).2 = 0 := by unfold tSeek; rw [hs]; simp only []; rw [if_neg c1]
      rw [this, if_neg c1, if_neg (by simp)]
      refine ⟨rfl, ?_⟩
      obtain ⟨z, hz⟩ := Int.eq_ofNat_of_zero_le (show 0 ≤ c.n by omega)
      rw [hz, Int.toNat_natCast]
      exact h.seek hI hs (by omega)
  · -- resize
    show SimO (resizeP m c) _
    unfold resizeP
    rw [hs]
    simp only []
    by_cases c1 : c.n < 0
    · rw [if_pos c1, if_pos c1]; exact h.fail _
    rw [if_neg c1, if_neg c1]
    by_cases c2 : 262144 < c.n
    · rw [if_pos c2, if_pos c2]; exact h.fail _
    rw [if_neg c2, if_neg c2]
    refine ⟨rfl, h.limit, h.next, ?_, ?_, h.fds⟩
    · simp only []
      rw [hsn, hxn]
      refine Eq.trans ?_ (rn_setF (F := fun n => { n with data := (growB n.data c.n.toNat).take c.n.toNat }) fun j d => rfl).symm
      show r.nodes.map _ = _
      rw [h.nodes]
    · refine h.ents.trans (List.Perm.of_eq (Eq.symm (ents_attr ?_)))
      exact fun _ => rfl
  · -- fstat
    show SimO (fstatP m c, m) _
    unfold fstatP
    rw [hs]
    simp only []
    refine ⟨?_, h⟩
    rw [hxn, hsn, h.stat hI a4]
  · -- same
    show SimO (sameP m c, m) _
    unfold sameP
    rw [hs]
    exact ⟨rfl, h⟩
end
end Go.Proofs.YtppdihpobokfnaaGreatDoor
set_option linter.unusedVariables false
set_option linter.unusedSimpArgs false
namespace Go.Proofs.YtppdihpobokfnaaGreatDoor
open Go Go.RowKit
section
variable {N : Nat} {m m' : Md} {r r1 : RM} {j k dir : Nat} {d x dd : Nd} {s p : Bs}
theorem Sim.bySet (h : Sim m r) (k : Nat) (f : Nd → Nd) (F : RN → RN) (hf : ∀ (j : Nat) (d : Nd), rnOf (j, f d) = F (rnOf (j, d))) (hn : ∀ d, (f d).names = d.names) : Sim (m.set k f) (setR r k F) := by
 refine ⟨h.limit, h.next, ?_, ?_, h.fds⟩
 · refine Eq.trans ?_ (rn_setF (F := F) hf).symm
   show r.nodes.map _ = _
   rw [h.nodes]
 · exact h.ents.trans (List.Perm.of_eq (Eq.symm (ents_attr hn)))
theorem Sim.linked (h : Sim m r) (k : Nat) (z : Int) : Sim (linksP m k z) r :=
 ⟨h.limit, h.next, h.nodes.trans rn_links.symm, by rw [ents_links]; exact h.ents, h.fds⟩
theorem Sim.openAt (hI : Inv N Nul m) (h : Sim m r) (c : Cl) (hn : 0 ≤ c.n ∧ c.n ≤ 7) (hf : tFull m.tab ≠ true) (hk : (m.get k).kind ≠ 2) : SimO (Go.Proofs.YtppdihpobokfnaaGreatDoor.openAt m c k) (openAtR r c k) := by
 have h1 : Sim (if c.n / 4 = 1 then m.set k fun n => { n with data := [] } else m) (if c.n / 4 = 1 then setR r k fun n => { n with data := [] } else r) := by
  split
  · exact h.bySet k _ _ (fun _ _ => rfl) (fun _ => rfl)
  · exact h
 have ht : (if c.n / 4 = 1 then m.set k fun n => { n with data := [] } else m).tab = m.tab := by split <;> rfl
 unfold Go.Proofs.YtppdihpobokfnaaGreatDoor.openAt openAtR
 rw [if_neg hk]
 simp only
 generalize (if c.n / 4 = 1 then m.set k fun n => { n with data := [] } else m) = m1 at *
 generalize (if c.n / 4 = 1 then setR r k fun n => { n with data := [] } else r) = r1 at *
 have hT : m1.tab.length = 16 := by rw [ht]; exact hI.tab16
 have hfree : freeFd r1 = firstFree m1.tab := h1.fds.free hT
 rw [hfree]
 unfold tOpen
 rw [if_neg (by omega)]
 cases hc : firstFree m1.tab with
 | none => exact absurd (free_full hc) (by rw [ht]; exact hf)
 | some fd =>
  simp only []
  refine ⟨rfl, h1.limit, h1.next, h1.nodes, h1.ents, ?_⟩
  simp only []
  unfold firstFree at hc
  obtain ⟨q1, q2, _⟩ := List.findIdx?_eq_some_iff_getElem.1 hc
  have hlt : fd < 16 := by omega
  exact h1.fds.opened hT hlt ((slot_closed hT hlt).2 ⟨m1.tab[fd], List.getElem?_eq_getElem q1, by simpa using q2⟩) k
theorem Sim.openP (hI : Inv N Nul m) (hN : N ≤ 900000) (h : Sim m r) (c : Cl) : SimO (Go.Proofs.YtppdihpobokfnaaGreatDoor.openP m c) (openR r c) := by
 have hG := hI.good hN
 unfold Go.Proofs.YtppdihpobokfnaaGreatDoor.openP openR
 by_cases c1 : c.n < 0 ∨ 7 < c.n
 · rw [if_pos c1, if_pos c1]; exact h.fail _
 rw [if_neg c1, if_neg c1]
 by_cases c2 : (splitP (bts c.p)).2 ≠ 0
 · rw [if_pos c2, if_pos c2]; exact h.fail _
 rw [if_neg c2, if_neg c2]
 by_cases c3 : tFull m.tab = true
 · rw [if_pos c3, if_pos ((h.fds.full hI.tab16).2 c3)]; exact h.fail _
 rw [if_neg c3, if_neg (fun q => c3 ((h.fds.full hI.tab16).1 q))]
 simp only []
 rw [h.path hI, h.place hI]
 have hfp : findP m (bts c.p) = walkFrom m 0 (splitP (bts c.p)).1 := by unfold findP; rw [if_neg c2]
 rw [hfp]
 by_cases c4 : (walkFrom m 0 (splitP (bts c.p)).1).2 ≠ 0
 · have n1 : ¬ ((walkFrom m 0 (splitP (bts c.p)).1).2 = 0 ∧ c.n % 2 = 1 ∧ c.n / 2 % 2 = 1) := fun q => c4 q.1
   have n2 : ¬ ((walkFrom m 0 (splitP (bts c.p)).1).2 = 0 ∧ r.kind (walkFrom m 0 (splitP (bts c.p)).1).1 = 2) := fun q => c4 q.1
   rw [if_pos c4, if_neg n1, if_neg n2, if_pos c4]
   unfold missingP
   by_cases c5 : (walkFrom m 0 (splitP (bts c.p)).1).2 ≠ 210 ∨ c.n % 2 = 0
   · rw [if_pos c5]
     simp only []
     rw [if_pos c4, if_pos]
     · exact h.fail _
     · rcases c5 with q | q
       · exact .inl q
       · exact .inr (.inl (by omega))
   rw [if_neg c5]
   by_cases c6 : (locateP m (bts c.p)).2 ≠ 0
   · rw [if_pos c6]
     simp only []
     rw [if_pos c4, if_pos (.inr (.inr (.inl c6)))]
     exact h.fail _
   rw [if_neg c6]
   simp only []
   rw [if_neg (by simp)]
   have hl : (locateP m (bts c.p)).2 = 0 := by simpa using c6
   have hw : (walkFrom m 0 (splitP (bts c.p)).1).2 = 210 := by
    refine Classical.byContradiction fun q => c5 (.inl q)
   obtain ⟨dd, l1, l2, l3, l4⟩ := locateP_ok hG hl
   have hnone := missing_free hG hw hl l1
   have hnode : ¬ 0 ≤ (locateP m (bts c.p)).1.node := by rw [l4, hnone]; simp [nodeAt]
   have n3 : ¬ ((walkFrom m 0 (splitP (bts c.p)).1).2 ≠ 210 ∨ c.n % 2 ≠ 1 ∨ (locateP m (bts c.p)).2 ≠ 0 ∨ 0 ≤ (locateP m (bts c.p)).1.node) := by
    rintro (q | q | q | q)
    · exact q hw
    · exact c5 (.inr (by omega))
    · exact c6 q
    · exact hnode q
   rw [if_neg n3]
   obtain ⟨e1, e2⟩ := h.made hI 1 l1 hnone
   rw [e1]
   by_cases c7 : (freshP m (locateP m (bts c.p)).1 1).1.2 ≠ 0
   · rw [if_pos c7, if_pos c7]
     refine ⟨rfl, ?_⟩
     have := freshP_err c7
     rw [this] at e2
     exact e2
   rw [if_neg c7, if_neg c7]
   have hok := locateP_nm hl
   have hI2 := hI.made (.inl rfl) l1 l2 hnone hok (show (freshP m (locateP m (bts c.p)).1 1).1.2 = 0 by simpa using c7)
   have hnew := freshP_new hG ⟨dd, l1⟩ (show (freshP m (locateP m (bts c.p)).1 1).1.2 = 0 by simpa using c7)
   have ht16 : (freshP m (locateP m (bts c.p)).1 1).2.tab = m.tab := fresh_tab
   -- the table is as it was
   have : ∃ N', Inv N' Nul (freshP m (locateP m (bts c.p)).1 1).2 := ⟨_, by simpa [freshN, linksP_zero] using hI2⟩
   obtain ⟨N', hI3⟩ := this
   exact e2.openAt hI3 c (by omega) (by rw [ht16]; exact c3) (by rw [Md.get_look hnew]; simp [freshN])
 · rw [if_neg c4]
   have c4' : (walkFrom m 0 (splitP (bts c.p)).1).2 = 0 := by simpa using c4
   by_cases c5 : c.n % 2 = 1 ∧ c.n / 2 % 2 = 1
   · have y1 : ((walkFrom m 0 (splitP (bts c.p)).1).2 = 0 ∧ c.n % 2 = 1 ∧ c.n / 2 % 2 = 1) := ⟨c4', c5⟩
     rw [if_pos c5, if_pos y1]; exact h.fail _
   have n1 : ¬ ((walkFrom m 0 (splitP (bts c.p)).1).2 = 0 ∧ c.n % 2 = 1 ∧ c.n / 2 % 2 = 1) := fun q => c5 q.2
   rw [if_neg c5, if_neg n1, h.kind]
   by_cases c6 : m.kd (walkFrom m 0 (splitP (bts c.p)).1).1 = 2
   · have y2 : ((walkFrom m 0 (splitP (bts c.p)).1).2 = 0 ∧ m.kd (walkFrom m 0 (splitP (bts c.p)).1).1 = 2) := ⟨c4', c6⟩
     rw [if_pos y2, openAt_dir c6]; exact h.fail _
   · have n2 : ¬ ((walkFrom m 0 (splitP (bts c.p)).1).2 = 0 ∧ m.kd (walkFrom m 0 (splitP (bts c.p)).1).1 = 2) := fun q => c6 q.2
     rw [if_neg n2, if_neg c4]
     exact h.openAt hI c (by omega) c3 c6
theorem Sim.mkdirP (hI : Inv N Nul m) (hN : N ≤ 900000) (h : Sim m r) (c : Cl) : SimO (Go.Proofs.YtppdihpobokfnaaGreatDoor.mkdirP m c) (mkdirR r c) := by
 have hG := hI.good hN
 unfold Go.Proofs.YtppdihpobokfnaaGreatDoor.mkdirP mkdirR
 simp only []
 rw [h.place hI]
 by_cases c1 : (locateP m (bts c.p)).2 ≠ 0
 · rw [if_pos c1, if_pos c1]; exact h.fail _
 rw [if_neg c1, if_neg c1]
 by_cases c2 : 0 ≤ (locateP m (bts c.p)).1.node
 · rw [if_pos c2, if_pos c2]; exact h.fail _
 rw [if_neg c2, if_neg c2]
 obtain ⟨dd, l1, l2, l3, l4⟩ := hI.free hG (show (locateP m (bts c.p)).2 = 0 by simpa using c1) (by omega)
 rw [h.links hI l1, Md.get_look l1]
 by_cases c3 : 100 ≤ dd.links
 · rw [if_pos c3, if_pos c3]; exact h.fail _
 rw [if_neg c3, if_neg c3]
 obtain ⟨e1, e2⟩ := h.made hI 2 l1 l3
 rw [e1]
 by_cases c4 : (freshP m (locateP m (bts c.p)).1 2).1.2 ≠ 0
 · rw [if_pos c4]
   refine ⟨rfl, ?_⟩
   rw [freshP_err c4] at e2
   exact e2
 · rw [if_neg c4]
   have : (freshP m (locateP m (bts c.p)).1 2).1.2 = 0 := by simpa using c4
   rw [this]
   exact ⟨rfl, e2.linked _ _⟩
theorem Sim.lnkP (hI : Inv N Nul m) (hN : N ≤ 900000) (h : Sim m r) (c : Cl) : SimO (Go.Proofs.YtppdihpobokfnaaGreatDoor.lnkP m c) (lnkR r c) := by
 have hG := hI.good hN
 unfold Go.Proofs.YtppdihpobokfnaaGreatDoor.lnkP lnkR
 simp only []
 rw [h.path hI, h.kind]
 by_cases c1 : (findP m (bts c.p)).2 ≠ 0
 · rw [if_pos c1, if_pos c1]; exact h.fail _
 rw [if_neg c1, if_neg c1]
 by_cases c2 : (m.get (findP m (bts c.p)).1).kind = 2
 · rw [if_pos c2, if_pos (show m.kd _ = 2 from c2)]; exact h.fail _
 rw [if_neg c2, if_neg (show ¬ m.kd _ = 2 from c2), h.place hI]
 by_cases c3 : (locateP m (bts c.o)).2 ≠ 0
 · rw [if_pos c3, if_pos c3]; exact h.fail _
 rw [if_neg c3, if_neg c3]
 by_cases c4 : 0 ≤ (locateP m (bts c.o)).1.node
 · rw [if_pos c4, if_pos c4]; exact h.fail _
 rw [if_neg c4, if_neg c4]
 obtain ⟨dk, hk⟩ := findP_there hG (show (findP m (bts c.p)).2 = 0 by simpa using c1)
 rw [h.links hI hk, Md.get_look hk]
 by_cases c5 : 100 ≤ dk.links
 · rw [if_pos c5, if_pos c5]; exact h.fail _
 rw [if_neg c5, if_neg c5]
 obtain ⟨dd, l1, l2, l3, l4⟩ := hI.free hG (show (locateP m (bts c.o)).2 = 0 by simpa using c3) (by omega)
 refine ⟨rfl, ?_⟩
 have hs : Sim (linkP m (locateP m (bts c.o)).1.dir (locateP m (bts c.o)).1.name (findP m (bts c.p)).1) { r with ents := r.ents ++ [⟨(locateP m (bts c.o)).1.dir, (locateP m (bts c.o)).1.name, (findP m (bts c.p)).1⟩] } := by
  refine ⟨h.limit, h.next, h.nodes.trans rn_link.symm, ?_, h.fds⟩
  refine List.Perm.trans ?_ (ents_link hI.rise l1 l3).symm
  refine List.perm_append_comm.trans ?_
  exact h.ents.cons _
 exact hs.linked _ _
theorem there_place {p : Bs} : thereP m p = if (locateP m p).2 = 0 ∧ (locateP m p).1.node < 0 then (Pl.zero, 210) else locateP m p := rfl
theorem Sim.dropped (hI : Inv N Nul m) (h : Sim m r) {b : Pl} (hdd : lookK m.nodes b.dir = some dd) (hs : lookN dd.names b.name = some k) (hb : b.node = (k : Int)) (hk : lookK m.nodes k = some d) (hn : d.kind = 2 → d.names = []) : Sim (dropP m b) (sweepR (unnameR r b.dir b.name)) := by
 obtain ⟨i1, i2, i3, i4, i5⟩ := drop_all hI hdd hs hb hk hn
 obtain ⟨Q, hQ⟩ := rn_drop (m := m) (a := b)
 refine sweep_sim i1 ?_ ?_ (erase_ents hI h.ents i2) ?_ (Q := Q) ?_
 · rw [i4]; exact h.limit
 · rw [i5]; exact h.next
 · rw [i3]; exact h.fds
 · rw [hQ, ← h.nodes]; rfl
theorem Sim.remove (hI : Inv N Nul m) (hN : N ≤ 900000) (h : Sim m r) (c : Cl) (hc : c.k = 8 ∨ c.k = 10) : SimO (if c.k = 8 then rmdirP m c else unlinkP m c) (removeR r c) := by
 have hG := hI.good hN
 unfold removeR
 simp only []
 rw [h.place hI]
 have hl := there_place (m := m) (p := bts c.p)
 by_cases c1 : (locateP m (bts c.p)).2 ≠ 0
 · rw [if_neg (fun q => c1 q.1)] at hl
   rw [if_pos c1]
   have : (if c.k = 8 then rmdirP m c else unlinkP m c) = (failA (locateP m (bts c.p)).2, m) := by
    split
    · unfold rmdirP; simp only [hl]; rw [if_pos c1]
    · unfold unlinkP; simp only [hl]; rw [if_pos c1]
   rw [this]
   exact h.fail _
 rw [if_neg c1]
 by_cases c2 : (locateP m (bts c.p)).1.node < 0
 · rw [if_pos ⟨by simpa using c1, c2⟩] at hl
   rw [if_pos c2]
   have : (if c.k = 8 then rmdirP m c else unlinkP m c) = (failA 210, m) := by
    split
    · unfold rmdirP; simp only [hl]; rw [if_pos (by simp)]
    · unfold unlinkP; simp only [hl]; rw [if_pos (by simp)]
   rw [this]
   exact h.fail _
 rw [if_neg c2]
 rw [if_neg (fun q => c2 q.2)] at hl
 obtain ⟨dd, k, d, l1, l2, l3, l4, l5, l6⟩ := thereP_ok hG (show (thereP m (bts c.p)).2 = 0 by rw [hl]; simpa using c1)
 rw [hl] at l1 l3 l4 l5
 rw [h.kind, h.size hI (by rw [l5, Int.toNat_natCast]; exact l6), show m.kd (locateP m (bts c.p)).1.node.toNat = d.kind by rw [l5, Int.toNat_natCast, Md.kd_look l6]]
 have hg : m.get (locateP m (bts c.p)).1.node.toNat = d := by rw [l5, Int.toNat_natCast, Md.get_look l6]
 have hfile : d.kind ≠ 2 → d.names = [] := hG.file k d l6
 have hdata : d.kind = 2 → d.data = [] := fun q => by
  rcases (hI.shape k d l6).1 with ⟨q1, _⟩ | ⟨_, q2⟩
  · omega
  · exact q2
 rcases hc with hc | hc
 · have n10 : ¬ (c.k = 10 ∧ (d.kind == 2) = true) := fun q => by omega
   rw [if_pos hc, if_neg n10]
   unfold rmdirP
   simp only [hl, hg]
   rw [if_neg c1]
   by_cases c3 : d.kind = 2
   · have n8 : ¬ (c.k = 8 ∧ (d.kind == 2) = false) := fun q => by simp [c3] at q
     have n9 : ¬ (d.kind ≠ 2) := fun q => q c3
     rw [if_neg n9, if_neg n8]
     by_cases c4 : 0 < d.names.length
     · have y4 : (d.kind == 2) = true ∧ 0 < (d.data.length : Int) + (d.names.length : Int) := ⟨by simpa using c3, by omega⟩
       rw [if_pos c4, if_pos y4]; exact h.fail _
     · have n4 : ¬ ((d.kind == 2) = true ∧ 0 < (d.data.length : Int) + (d.names.length : Int)) := by
        rintro ⟨_, q⟩
        rw [hdata c3] at q
        simp only [List.length_nil] at q
        omega
       rw [if_neg c4, if_neg n4]
       exact ⟨rfl, h.dropped hI l1 l4 l5 l6 (fun _ => List.length_eq_zero_iff.1 (by omega))⟩
   · have y8 : c.k = 8 ∧ (d.kind == 2) = false := ⟨hc, by simpa using c3⟩
     have y9 : d.kind ≠ 2 := c3
     rw [if_pos y9, if_pos y8]; exact h.fail _
 · have n8' : ¬ (c.k = 8) := by omega
   rw [if_neg n8']
   unfold unlinkP
   simp only [hl, hg]
   rw [if_neg c1]
   by_cases c3 : d.kind = 2
   · have y10 : c.k = 10 ∧ (d.kind == 2) = true := ⟨hc, by simpa using c3⟩
     rw [if_pos c3, if_pos y10]; exact h.fail _
   · have n10 : ¬ (c.k = 10 ∧ (d.kind == 2) = true) := fun q => c3 (by simpa using q.2)
     have n8 : ¬ (c.k = 8 ∧ (d.kind == 2) = false) := fun q => n8' q.1
     have n4 : ¬ ((d.kind == 2) = true ∧ 0 < (d.data.length : Int) + (d.names.length : Int)) := fun q => c3 (by simpa using q.1)
     rw [if_neg c3, if_neg n10, if_neg n8, if_neg n4]
     exact ⟨rfl, h.dropped hI l1 l4 l5 l6 (fun q => absurd q c3)⟩
theorem Sim.lies (hI : Inv N Nul m) (h : Sim m r) {inn : Nat} : ∀ (f k : Nat), Dir m k → liesR r inn f k = belowP m inn f k
 | 0, k, _ => rfl
 | f + 1, k, ⟨d, hd, h2⟩ => by
  rw [liesR, belowP, h.par hI hd h2, Md.get_look hd]
  by_cases c : k ≠ inn ∧ k ≠ 0
  · rw [if_pos c, if_pos c]
    exact h.lies hI f d.par (hI.pardir hd h2)
  · rw [if_neg c, if_neg c]
theorem Sim.renameP (hI : Inv N Nul m) (hN : N ≤ 900000) (h : Sim m r) (c : Cl) : SimO (Go.Proofs.YtppdihpobokfnaaGreatDoor.renameP m c) (renameR r c) := by
 have hG := hI.good hN
 have hI' := hI.renameP hG c
 unfold renameR
 simp only []
 rw [h.place hI, h.place hI]
 unfold Go.Proofs.YtppdihpobokfnaaGreatDoor.renameP at hI' ⊢
 simp only [] at hI' ⊢
 have hl := there_place (m := m) (p := bts c.p)
 by_cases c1 : (locateP m (bts c.p)).2 ≠ 0
 · rw [if_neg (fun q => c1 q.1)] at hl
   rw [hl, if_pos c1, if_pos c1]; exact h.fail _
 by_cases c2 : (locateP m (bts c.p)).1.node < 0
 · rw [if_pos ⟨by simpa using c1, c2⟩] at hl
   rw [if_neg c1, if_pos c2, hl, if_pos (by simp)]; exact h.fail _
 rw [if_neg (fun q => c2 q.2)] at hl
 obtain ⟨da, k, d, l1, l2, l3, l4, l5, l6⟩ := thereP_ok hG (show (thereP m (bts c.p)).2 = 0 by rw [hl]; simpa using c1)
 rw [hl] at hI' l1 l3 l4 l5 ⊢
 rw [if_neg c1] at hI'
 rw [if_neg c1, if_neg c1, if_neg c2]
 by_cases c3 : (locateP m (bts c.o)).2 ≠ 0
 · rw [if_pos c3, if_pos c3]; exact h.fail _
 rw [if_neg c3] at hI'
 rw [if_neg c3, if_neg c3]
 by_cases c4 : (locateP m (bts c.p)).1.node = (locateP m (bts c.o)).1.node
 · rw [if_pos c4, if_pos c4.symm]; exact h.zero
 rw [if_neg c4] at hI'
 have n4 : ¬ ((locateP m (bts c.o)).1.node = (locateP m (bts c.p)).1.node) := fun q => c4 q.symm
 rw [if_neg c4, if_neg n4]
 have e3 : (locateP m (bts c.o)).2 = 0 := by simpa using c3
 obtain ⟨db, r1, r2, r3, r4⟩ := locateP_ok hG e3
 generalize (locateP m (bts c.p)).1 = A at *
 generalize (locateP m (bts c.o)).1 = B at *
 have hkd : r.kind A.node.toNat = d.kind := by rw [h.kind, l5, Int.toNat_natCast, Md.kd_look l6]
 rw [hkd, h.links hI r1]
 have hlies : liesR r A.node.toNat (r.nodes.length + 1) B.dir = belowP m k m.nodes.length B.dir := by
  rw [h.lies hI _ _ ⟨db, r1, r2⟩, l5, Int.toNat_natCast, h.nodes, rn_len]
  obtain ⟨dep, hdep⟩ := hI.tree
  exact (below_more hG hdep m.nodes.length B.dir ⟨db, r1, r2⟩ (Nat.le_of_lt (less_all r1))).symm
 rw [hlies]
 -- what stands at the other place
 have hbk : ∀ kb, lookN db.names B.name = some kb → ∃ x, lookK m.nodes kb = some x ∧ B.node = (kb : Int) := fun kb e => by
  obtain ⟨_, x, hx, _⟩ := hI.there _ (hI.mem_look r1 e)
  exact ⟨x, hx, by rw [r4, e]; rfl⟩
 have hmay : mayP m A B = if (d.kind == 2) = true ∧ belowP m k m.nodes.length B.dir = true then 216 else if B.node < 0 then (if (d.kind == 2) = true ∧ A.dir ≠ B.dir ∧ 100 ≤ db.links then 215 else 0) else (if (d.kind == 2) = true ∧ (m.get B.node.toNat).kind ≠ 2 then 212 else if (d.kind == 2) = false ∧ (m.get B.node.toNat).kind = 2 then 213 else if 0 < (m.get B.node.toNat).names.length then 214 else 0) := by
  unfold mayP
  simp only [l5, Int.toNat_natCast, Md.get_look l6, Md.get_look r1]
 rw [hmay]
 by_cases c5 : (d.kind == 2) = true ∧ belowP m k m.nodes.length B.dir = true
 · rw [if_pos c5, if_pos (by simp), if_pos c5]; exact h.fail _
 rw [if_neg c5, if_neg c5]
 -- behind the tests
 have hfin : mayP m A B = 0 → SimO (An.zero, moveP m A B) (An.zero, sweepR { unnameR (if 0 ≤ B.node then unnameR r B.dir B.name else r) A.dir A.name with ents := (unnameR (if 0 ≤ B.node then unnameR r B.dir B.name else r) A.dir A.name).ents ++ [⟨B.dir, B.name, A.node.toNat⟩] }) := by
  intro hm0
  rw [if_neg (by rw [hm0]; simp)] at hI'
  simp only [] at hI'
  refine ⟨rfl, ?_⟩
  simp only []
  -- the model ahead of the move
  obtain ⟨m0, hm0'⟩ : ∃ m0, m0 = if 0 ≤ B.node then dropP m B else m := ⟨_, rfl⟩
  obtain ⟨r0, hr0⟩ : ∃ r0, r0 = if 0 ≤ B.node then unnameR r B.dir B.name else r := ⟨_, rfl⟩
  rw [moveP_eq, ← hm0', l5, Int.toNat_natCast] at hI' ⊢
  rw [← hr0]
  have key : Inv N Nul m0 ∧ r0.ents.Perm (entsOf m0.nodes) ∧ m0.tab = m.tab ∧ m0.limit = m.limit ∧ m0.next = m.next ∧ (∃ Q : Nat → Bool, m0.rn = m.rn.filter fun n => Q n.id) ∧ (∃ da0, lookK m0.nodes A.dir = some da0 ∧ lookN da0.names A.name = some k) ∧ (∃ db0, lookK m0.nodes B.dir = some db0 ∧ lookN db0.names B.name = none) ∧ ∃ d0, lookK m0.nodes k = some d0 := by
   by_cases cb : 0 ≤ B.node
   · rw [if_pos cb] at hm0' hr0
     obtain ⟨kb, e1, e2⟩ := nodeAt_some (o := lookN db.names B.name) (by rw [← r4]; exact cb)
     obtain ⟨x, hx, hbn⟩ := hbk kb e1
     have hne : kb ≠ k := fun e => c4 (by rw [l5, hbn, e])
     have hxn : x.kind = 2 → x.names = [] := fun q => by
      rw [hmay, if_neg c5, if_neg (by omega)] at hm0
      rw [hbn, Int.toNat_natCast, Md.get_look hx] at hm0
      by_cases q1 : (d.kind == 2) = true ∧ x.kind ≠ 2
      · rw [if_pos q1] at hm0; omega
      rw [if_neg q1] at hm0
      by_cases q2 : (d.kind == 2) = false ∧ x.kind = 2
      · rw [if_pos q2] at hm0; omega
      rw [if_neg q2] at hm0
      by_cases q3 : 0 < x.names.length
      · rw [if_pos q3] at hm0; omega
      · exact List.length_eq_zero_iff.1 (by omega)
     obtain ⟨i1, i2, i3, i4, i5⟩ := drop_all hI r1 e1 hbn hx hxn
     have hxnames : x.names = [] := by
      by_cases q : x.kind = 2
      · exact hxn q
      · exact hG.file kb x hx q
     have hnea : kb ≠ A.dir := fun e => by
      rw [e, l1] at hx
      cases hx
      rw [hxnames] at l4
      cases l4
     have hneb : kb ≠ B.dir := fun e => by
      rw [e, r1] at hx
      cases hx
      rw [hxnames] at e1
      cases e1
     rw [hm0', hr0]
     refine ⟨i1, erase_ents hI h.ents i2, i3, i4, i5, rn_drop, ?_, ?_, ?_⟩
     · refine ⟨_, by rw [drop_look hbn hneb (fun e => hnea e.symm), l1]; rfl, ?_⟩
       simp only []
       by_cases q : A.dir = B.dir
       · rw [if_pos q, delN_look, if_neg]
         · exact l4
         · intro e
           have l1' := l1
           rw [q, r1] at l1'
           cases l1'
           rw [e, e1] at l4
           exact hne (Option.some.inj l4)
       · rw [if_neg q]; exact l4
     · refine ⟨_, by rw [drop_look hbn hneb (fun e => hneb e.symm), r1]; rfl, ?_⟩
       simp only [if_true]
       rw [delN_look, if_pos rfl]
     · exact ⟨_, by rw [drop_look hbn hneb (fun e => hne e.symm), l6]; rfl⟩
   · rw [if_neg cb] at hm0' hr0
     rw [hm0', hr0]
     exact ⟨hI, h.ents, rfl, rfl, rfl, ⟨fun _ => true, by rw [List.filter_eq_self.2 (fun _ _ => rfl)]⟩, ⟨da, l1, l4⟩, ⟨db, r1, nodeAt_neg (by rw [← r4]; omega)⟩, d, l6⟩
  have hr0f : r0.fds = r.fds ∧ r0.limit = r.limit ∧ r0.next = r.next ∧ r0.nodes = r.nodes := by
   rw [hr0]
   split <;> exact ⟨rfl, rfl, rfl, rfl⟩
  obtain ⟨j1, j2, j3, j4, j5, ⟨Q, j6⟩, ⟨da0, j7, j8⟩, ⟨db0, j9, j10⟩, d0, j11⟩ := key
  have hq := moveQ_upd (m := m0) (a := A) (b := B) j11
  have hE1 := ents_unname j1.rise j7 (j1.shape _ _ j7).2.1 j8
  have hb1 : ∃ db1, lookK (unnameP m0 A.dir A.name).nodes B.dir = some db1 ∧ lookN db1.names B.name = none := by
   have hu := Upd.set m0 A.dir fun n => { n with names := delN n.names A.name }
   refine ⟨_, by rw [show (unnameP m0 A.dir A.name) = m0.set A.dir fun n => { n with names := delN n.names A.name } from rfl, hu.look, j9]; rfl, ?_⟩
   simp only []
   by_cases q : B.dir = A.dir
   · rw [if_pos q]
     show lookN (delN db0.names A.name) B.name = none
     rw [delN_look]
     split
     · rfl
     · exact j10
   · rw [if_neg q]; exact j10
  obtain ⟨db1, g1, g2⟩ := hb1
  have hE2 := ents_link (j := k) (rise_unname (k := A.dir) (s := A.name) j1.rise) g1 g2
  rw [hq] at hI' ⊢
  refine sweep_sim hI' ?_ ?_ ?_ ?_ (Q := Q) ?_
  · show r0.limit = m0.limit
    rw [hr0f.2.1, j4, h.limit]
  · show r0.next = m0.next
    rw [hr0f.2.2.1, j5, h.next]
  · show ((unnameR r0 A.dir A.name).ents ++ [(⟨B.dir, B.name, k⟩ : En)]).Perm _
    refine List.perm_append_comm.trans ?_
    rw [ents_attr (f := fun n => { n with par := B.dir }) (fun _ => rfl), ents_links, ents_links]
    refine List.Perm.trans ?_ hE2.symm
    exact (erase_ents j1 j2 hE1).cons _
  · show FdSim m0.tab r0.fds
    rw [j3, hr0f.1]
    exact h.fds
  · rw [rn_set (f := fun n => { n with par := B.dir }) (fun _ => ⟨rfl, rfl, rfl⟩), rn_links, rn_links, rn_link, rn_unname, j6, ← h.nodes]
    show _ = List.filter _ r0.nodes
    rw [hr0f.2.2.2]
 by_cases c6 : B.node < 0
 · rw [if_pos c6]
   have z1 : ¬ (0 ≤ B.node ∧ (d.kind == 2) = true ∧ (r.kind B.node.toNat == 2) = false) := fun q => by omega
   have z2 : ¬ (0 ≤ B.node ∧ (d.kind == 2) = false ∧ (r.kind B.node.toNat == 2) = true) := fun q => by omega
   have z3 : ¬ (0 ≤ B.node ∧ (r.kind B.node.toNat == 2) = true ∧ 0 < r.size B.node.toNat) := fun q => by omega
   by_cases c7 : (d.kind == 2) = true ∧ A.dir ≠ B.dir ∧ 100 ≤ db.links
   · have y7 : B.node < 0 ∧ (d.kind == 2) = true ∧ B.dir ≠ A.dir ∧ 100 ≤ db.links := ⟨c6, c7.1, fun q => c7.2.1 q.symm, c7.2.2⟩
     have y0 : (215 : Int) ≠ 0 := by omega
     rw [if_pos c7, if_pos y0, if_pos y7]; exact h.fail _
   · have n7 : ¬ (B.node < 0 ∧ (d.kind == 2) = true ∧ B.dir ≠ A.dir ∧ 100 ≤ db.links) := fun q => c7 ⟨q.2.1, fun e => q.2.2.1 e.symm, q.2.2.2⟩
     have y0 : ¬ ((0 : Int) ≠ 0) := by omega
     rw [if_neg c7, if_neg y0, if_neg n7, if_neg z1, if_neg z2, if_neg z3]
     exact hfin (by rw [hmay, if_neg c5, if_pos c6, if_neg c7])
 · have n7 : ¬ (B.node < 0 ∧ (d.kind == 2) = true ∧ B.dir ≠ A.dir ∧ 100 ≤ db.links) := fun q => c6 q.1
   rw [if_neg c6, if_neg n7]
   obtain ⟨kb, e1, e2⟩ := nodeAt_some (o := lookN db.names B.name) (by rw [← r4]; omega)
   obtain ⟨x, hx, hbn⟩ := hbk kb e1
   have hgx : m.get B.node.toNat = x := by rw [hbn, Int.toNat_natCast, Md.get_look hx]
   have hkx : r.kind B.node.toNat = x.kind := by rw [h.kind, hbn, Int.toNat_natCast, Md.kd_look hx]
   have hsx : r.size B.node.toNat = (x.data.length : Int) + (x.names.length : Int) := by rw [hbn, Int.toNat_natCast, h.size hI hx]
   have hmay' := hmay
   rw [if_neg c5, if_neg c6] at hmay'
   rw [hgx] at hmay' ⊢
   rw [hkx, hsx]
   have h0B : 0 ≤ B.node := by omega
   by_cases c7 : (d.kind == 2) = true ∧ x.kind ≠ 2
   · have y1 : 0 ≤ B.node ∧ (d.kind == 2) = true ∧ (x.kind == 2) = false := ⟨h0B, c7.1, by simpa using c7.2⟩
     have y0 : (212 : Int) ≠ 0 := by omega
     rw [if_pos c7, if_pos y0, if_pos y1]; exact h.fail _
   have n1 : ¬ (0 ≤ B.node ∧ (d.kind == 2) = true ∧ (x.kind == 2) = false) := fun q => c7 ⟨q.2.1, by simpa using q.2.2⟩
   rw [if_neg c7] at hmay' ⊢
   rw [if_neg n1]
   by_cases c8 : (d.kind == 2) = false ∧ x.kind = 2
   · have y1 : 0 ≤ B.node ∧ (d.kind == 2) = false ∧ (x.kind == 2) = true := ⟨h0B, c8.1, by simpa using c8.2⟩
     have y0 : (213 : Int) ≠ 0 := by omega
     rw [if_pos c8, if_pos y0, if_pos y1]; exact h.fail _
   have n2 : ¬ (0 ≤ B.node ∧ (d.kind == 2) = false ∧ (x.kind == 2) = true) := fun q => c8 ⟨q.2.1, by simpa using q.2.2⟩
   rw [if_neg c8] at hmay' ⊢
   rw [if_neg n2]
   by_cases c9 : 0 < x.names.length
   · have hx2 : x.kind = 2 := Classical.byContradiction fun q => by
      rw [hG.file kb x hx q] at c9
      simp at c9
     have y1 : 0 ≤ B.node ∧ (x.kind == 2) = true ∧ 0 < (x.data.length : Int) + (x.names.length : Int) := ⟨h0B, by simpa using hx2, by omega⟩
     have y0 : (214 : Int) ≠ 0 := by omega
     rw [if_pos c9, if_pos y0, if_pos y1]; exact h.fail _
   have n3 : ¬ (0 ≤ B.node ∧ (x.kind == 2) = true ∧ 0 < (x.data.length : Int) + (x.names.length : Int)) := by
    rintro ⟨_, q1, q2⟩
    have hx2 : x.kind = 2 := by simpa using q1
    have : x.data = [] := by
     rcases (hI.shape kb x hx).1 with ⟨q, _⟩ | ⟨_, q⟩
     · omega
     · exact q
    rw [this] at q2
    simp only [List.length_nil] at q2
    omega
   rw [if_neg c9] at hmay' ⊢
   have y0 : ¬ ((0 : Int) ≠ 0) := by omega
   rw [if_neg y0, if_neg n3]
   exact hfin hmay'
end
end Go.Proofs.YtppdihpobokfnaaGreatDoor
set_option linter.unusedVariables false
set_option linter.unusedSimpArgs false
namespace Go.Proofs.YtppdihpobokfnaaGreatDoor
open Go Go.RowKit
section
variable {N : Nat} {m m' : Md} {r r1 : RM} {j k dir : Nat} {d x dd : Nd} {s p : Bs}
theorem insR_perm (x : Bs) : ∀ l : List Bs, (insR x l).Perm (x :: l)
 | [] => List.Perm.refl _
 | y :: l => by
  rw [insR]
  split
  · exact ((insR_perm x l).cons y).trans (List.Perm.swap ..)
  · exact List.Perm.refl _
theorem insR_sorted {x : Bs} : ∀ {l : List Bs}, l.Pairwise (· < ·) → x ∉ l → (insR x l).Pairwise (· < ·)
 | [], _, _ => by simp [insR]
 | y :: l, h, hx => by
  rw [insR]
  obtain ⟨h1, h2⟩ := List.pairwise_cons.1 h
  cases hb : bytesBefore y x with
  | true =>
   rw [if_pos rfl, List.pairwise_cons]
   refine ⟨fun z hz => ?_, insR_sorted h2 (fun q => hx (List.mem_cons_of_mem _ q))⟩
   rcases List.mem_cons.1 ((insR_perm x l).mem_iff.1 hz) with rfl | hz
   · exact before_iff.1 hb
   · exact h1 z hz
  | false =>
   rw [if_neg (by simp), List.pairwise_cons]
   have hyx := before_no hb (fun e => hx (by rw [e]; simp))
   refine ⟨fun z hz => ?_, h⟩
   rcases List.mem_cons.1 hz with rfl | hz
   · exact hyx
   · exact List.lt_trans hyx (h1 z hz)
theorem insR_fold : ∀ (es : List En) (acc : List Bs), acc.Pairwise (· < ·) → ((es.map (·.name)) ++ acc).Nodup → (es.foldl (fun acc e => insR e.name acc) acc).Pairwise (· < ·) ∧ (es.foldl (fun acc e => insR e.name acc) acc).Perm (es.map (·.name) ++ acc)
 | [], acc, h, _ => ⟨h, List.Perm.refl _⟩
 | e :: es, acc, h, hn => by
  rw [List.foldl_cons]
  rw [List.map_cons, List.cons_append, List.nodup_cons] at hn
  have hp := insR_perm e.name acc
  have h1 : e.name ∉ acc := fun q => hn.1 (List.mem_append.2 (.inr q))
  have hmid : (es.map (·.name) ++ insR e.name acc).Perm (e.name :: (es.map (·.name) ++ acc)) := (List.Perm.append_left _ hp).trans List.perm_middle
  obtain ⟨i1, i2⟩ := insR_fold es (insR e.name acc) (insR_sorted h h1) (hmid.nodup_iff.2 (List.nodup_cons.2 hn))
  exact ⟨i1, i2.trans hmid⟩
theorem rising_eq {a b : List Bs} (ha : a.Pairwise (· < ·)) (hb : b.Pairwise (· < ·)) (h : a.Perm b) : a = b :=
 h.eq_of_pairwise (fun x y _ _ h1 h2 => absurd (List.lt_trans h1 h2) (List.lt_irrefl _)) ha hb
theorem names_dir (hI : Inv N Nul m) (hk : lookK m.nodes k = some d) : (((entsOf m.nodes).filter fun e => e.dir == k).map (·.name)).Perm (d.names.map (·.1)) := by
 obtain ⟨rest, h1, _⟩ := ents_at hI.rise hk
 have h2 : ((entsOf m.nodes).filter fun e => e.dir == k).Perm (entD k d.names ++ rest.filter fun e => e.dir == k) := by
  refine (h1.filter _).trans ?_
  rw [List.filter_append, List.filter_eq_self.2]
  intro e he
  unfold entD at he
  obtain ⟨y, _, rfl⟩ := List.mem_map.1 he
  simp
 have h3 : rest.filter (fun e => e.dir == k) = [] := by
  have := h2.length_eq
  rw [← List.countP_eq_length_filter, count_dir hI.rise hk, List.length_append] at this
  simp [entD] at this
  rw [List.filter_eq_nil_iff]
  intro e he
  simpa using this e he
 rw [h3, List.append_nil] at h2
 have h4 := h2.map (·.name)
 unfold entD at h4
 rw [List.map_map] at h4
 exact h4
theorem Sim.names (hI : Inv N Nul m) (h : Sim m r) (hk : lookK m.nodes k = some d) : namesR r k = d.names.map (·.1) := by
 have hs : (d.names.map (·.1)).Pairwise (· < ·) := by
  rw [List.pairwise_map]
  exact (hI.shape k d hk).2.1
 have hp : ((r.ents.filter fun e => e.dir == k).map (·.name)).Perm (d.names.map (·.1)) := ((h.ents.filter _).map _).trans (names_dir hI hk)
 have hnd : (d.names.map (·.1)).Nodup := hs.imp fun {a b} hlt e => by rw [e] at hlt; exact List.lt_irrefl _ hlt
 obtain ⟨i1, i2⟩ := insR_fold (r.ents.filter fun e => e.dir == k) [] (by simp) (by rw [List.append_nil]; exact hp.nodup_iff.2 hnd)
 rw [List.append_nil] at i2
 exact rising_eq i1 hs (i2.trans hp)
theorem Sim.by (hI : Inv N Nul m) (hN : N ≤ 900000) (h : Sim m r) (c : Cl) (hc : c.k = 12 ∨ c.k = 13 ∨ c.k = 15) : SimO (doP m c) (byR r c) := by
 have hG := hI.good hN
 unfold byR doP
 simp only []
 rw [h.path hI]
 rcases hc with q | q | q <;> rw [q]
 · show SimO (listP m c, m) _
   unfold listP
   simp only []
   by_cases c1 : (findP m (bts c.p)).2 ≠ 0
   · rw [if_pos c1, if_pos c1]; exact h.fail _
   obtain ⟨d, hd⟩ := findP_there hG (show (findP m (bts c.p)).2 = 0 by simpa using c1)
   have n1 : ¬ ((12 : Int) = 13) := by omega
   have n2 : ¬ ((12 : Int) = 15) := by omega
   rw [if_neg c1, if_neg c1, if_neg n1, if_neg n2, h.kind_look hd, Md.get_look hd]
   by_cases c2 : d.kind ≠ 2
   · rw [if_pos c2, if_pos c2]; exact h.fail _
   rw [if_neg c2, if_neg c2, h.names hI hd]
   exact ⟨rfl, h⟩
 · show SimO (statP m c, m) _
   unfold statP
   simp only []
   by_cases c1 : (findP m (bts c.p)).2 ≠ 0
   · rw [if_pos c1, if_pos c1]; exact h.fail _
   obtain ⟨d, hd⟩ := findP_there hG (show (findP m (bts c.p)).2 = 0 by simpa using c1)
   have n1 : (13 : Int) = 13 := rfl
   rw [if_neg c1, if_neg c1, if_pos trivial, h.stat hI hd]
   exact ⟨rfl, h⟩
 · show SimO (pinP m c) _
   unfold pinP
   simp only []
   by_cases c1 : (findP m (bts c.p)).2 ≠ 0
   · rw [if_pos c1, if_pos c1]; exact h.fail _
   have n1 : ¬ ((15 : Int) = 13) := by omega
   have n2 : (15 : Int) = 15 := rfl
   rw [if_neg c1, if_neg c1, if_neg n1, if_pos trivial]
   exact ⟨rfl, h.bySet _ _ _ (fun _ _ => rfl) (fun _ => rfl)⟩
theorem Sim.doP (hI : Inv N Nul m) (hN : N ≤ 900000) (h : Sim m r) (c : Cl) : SimO (Go.Proofs.YtppdihpobokfnaaGreatDoor.doP m c) (doR r c) := by
 by_cases hb : byFd c.k = true
 · exact h.through hI c hb
 have hfd : c.k ≠ 2 ∧ c.k ≠ 3 ∧ c.k ≠ 4 ∧ c.k ≠ 5 ∧ c.k ≠ 6 ∧ c.k ≠ 14 ∧ c.k ≠ 16 := by
  unfold byFd at hb
  simpa [not_or, and_assoc] using hb
 unfold doR
 rw [if_neg hb]
 split
 · rename_i e
   have : Go.Proofs.YtppdihpobokfnaaGreatDoor.doP m c = Go.Proofs.YtppdihpobokfnaaGreatDoor.openP m c := by unfold Go.Proofs.YtppdihpobokfnaaGreatDoor.doP; rw [e]; rfl
   rw [this]
   exact h.openP hI hN c
 · rename_i e
   have : Go.Proofs.YtppdihpobokfnaaGreatDoor.doP m c = Go.Proofs.YtppdihpobokfnaaGreatDoor.mkdirP m c := by unfold Go.Proofs.YtppdihpobokfnaaGreatDoor.doP; rw [e]; rfl
   rw [this]
   exact h.mkdirP hI hN c
 · rename_i e
   have : Go.Proofs.YtppdihpobokfnaaGreatDoor.doP m c = if c.k = 8 then rmdirP m c else unlinkP m c := by rw [if_pos e]; unfold Go.Proofs.YtppdihpobokfnaaGreatDoor.doP; rw [e]; rfl
   rw [this]
   exact h.remove hI hN c (.inl e)
 · rename_i e
   have n : ¬ (c.k = 8) := by omega
   have : Go.Proofs.YtppdihpobokfnaaGreatDoor.doP m c = if c.k = 8 then rmdirP m c else unlinkP m c := by rw [if_neg n]; unfold Go.Proofs.YtppdihpobokfnaaGreatDoor.doP; rw [e]; rfl
   rw [this]
   exact h.remove hI hN c (.inr e)
 · rename_i e
   have : Go.Proofs.YtppdihpobokfnaaGreatDoor.doP m c = Go.Proofs.YtppdihpobokfnaaGreatDoor.lnkP m c := by unfold Go.Proofs.YtppdihpobokfnaaGreatDoor.doP; rw [e]; rfl
   rw [this]
   exact h.lnkP hI hN c
 · rename_i e
   have : Go.Proofs.YtppdihpobokfnaaGreatDoor.doP m c = Go.Proofs.YtppdihpobokfnaaGreatDoor.renameP m c := by unfold Go.Proofs.YtppdihpobokfnaaGreatDoor.doP; rw [e]; rfl
   rw [this]
   exact h.renameP hI hN c
 · rename_i e; exact h.by hI hN c (.inl e)
 · rename_i e; exact h.by hI hN c (.inr (.inl e))
 · rename_i e; exact h.by hI hN c (.inr (.inr e))
 · rename_i e
   have : Go.Proofs.YtppdihpobokfnaaGreatDoor.doP m c = (An.zero, m) := by unfold Go.Proofs.YtppdihpobokfnaaGreatDoor.doP; rw [e]; rfl
   rw [this]
   exact h.zero
 · rename_i e
   have : Go.Proofs.YtppdihpobokfnaaGreatDoor.doP m c = (An.zero, m) := by unfold Go.Proofs.YtppdihpobokfnaaGreatDoor.doP; rw [e]; rfl
   rw [this]
   exact h.zero
 · rename_i e
   have : Go.Proofs.YtppdihpobokfnaaGreatDoor.doP m c = (An.zero, m) := by unfold Go.Proofs.YtppdihpobokfnaaGreatDoor.doP; rw [e]; rfl
   rw [this]
   exact h.zero
 · rename_i e
   have : Go.Proofs.YtppdihpobokfnaaGreatDoor.doP m c = (usageP m, m) := by unfold Go.Proofs.YtppdihpobokfnaaGreatDoor.doP; rw [e]; rfl
   rw [this]
   refine ⟨?_, h⟩
   unfold usageP
   rw [h.limit, h.nodes, rn_len]
 · rename_i e1 e7 e8 e10 e9 e11 e12 e13 e15 e17 e19 e20 e18
   have : Go.Proofs.YtppdihpobokfnaaGreatDoor.doP m c = (failA 2, m) := by
    obtain ⟨f2, f3, f4, f5, f6, f14, f16⟩ := hfd
    have g1 : c.k ≠ 1 := e1
    have g7 : c.k ≠ 7 := e7
    have g8 : c.k ≠ 8 := e8
    have g9 : c.k ≠ 9 := e9
    have g10 : c.k ≠ 10 := e10
    have g11 : c.k ≠ 11 := e11
    have g12 : c.k ≠ 12 := e12
    have g13 : c.k ≠ 13 := e13
    have g15 : c.k ≠ 15 := e15
    have g17 : c.k ≠ 17 := e17
    have g18 : c.k ≠ 18 := e18
    have g19 : c.k ≠ 19 := e19
    have g20 : c.k ≠ 20 := e20
    clear e1 e7 e8 e9 e10 e11 e12 e13 e15 e17 e18 e19 e20
    unfold Go.Proofs.YtppdihpobokfnaaGreatDoor.doP
    split <;> first | rfl | (exfalso; omega)
   rw [this]
   exact h.fail _
theorem over_short (l b : Bs) (a n : Nat) (hn : n ≤ b.length) : overB (growB l (a + n)) a (b.take n) = overB (growB l a) a (b.take n) := by
 have := over_grow l (b.take n) a
 rw [List.length_take, Nat.min_eq_left hn] at this
 exact this
theorem Sim.short (hI : Inv N Nul m) (h : Sim m r) (c : Cl) (n : Int) : SimO (shortP m c n) (shortR r c n) := by
 unfold shortP shortR
 by_cases c1 : c.k ≠ 4 ∨ n < 0 ∨ (c.d.size : Int) < n
 · rw [if_pos c1, if_pos c1]; exact h.fail _
 rw [if_neg c1, if_neg c1]
 have hk : c.k = 4 := Classical.byContradiction fun q => c1 (.inl q)
 obtain ⟨many, hm, hle⟩ : ∃ many : Nat, n.toNat = many ∧ many ≤ c.d.size := ⟨_, rfl, by omega⟩
 rw [hm]
 unfold putP
 cases hs : slotOf m.tab c.fd with
 | none => rw [h.fd_none hs]; exact h.fail _
 | some s =>
  obtain ⟨x, hx, hfx, x1, x2, x3⟩ := h.fd_some hs
  rw [hfx]
  obtain ⟨s1, s2, s3, s4⟩ := slotOf_some hs
  obtain ⟨a1, a2, k, d, a3, a4, a5⟩ := hI.tab _ s hs
  have hxn : x.n = k := by omega
  have hsn : s.n.toNat = k := by omega
  have hsa : s.a.toNat = x.a := by omega
  unfold throughR
  rw [hk]
  simp only []
  by_cases c1 : 1024 < c.d.size
  · rw [if_pos c1, if_pos c1]; exact h.fail _
  rw [if_neg c1, if_neg c1]
  by_cases c2 : 262144 < x.a + c.d.size
  · have y2 : 262144 - s.a < (c.d.size : Int) := by omega
    rw [if_pos c2, if_pos y2]; exact h.fail _
  have n2 : ¬ (262144 - s.a < (c.d.size : Int)) := by omega
  rw [if_neg c2, if_neg n2]
  by_cases c3 : many = 0
  · rw [if_pos c3, if_pos c3]; exact h.zero
  rw [if_neg c3, if_neg c3]
  refine ⟨rfl, ?_⟩
  simp only []
  have e2 : s.a + (many : Int) = ((x.a + many : Nat) : Int) := by omega
  have hs2 : Sim (m.set s.n.toNat fun n => { n with data := overB (growB n.data (s.a.toNat + many)) s.a.toNat ((bts c.d).take many) }) (setR r x.n fun n => { n with data := overB (growB n.data x.a) x.a ((bts c.d).take many) }) := by
   rw [hsn, hsa, hxn]
   refine h.bySet k _ _ (fun j d => ?_) (fun _ => rfl)
   have := over_short d.data (bts c.d) x.a many (by rw [bts_length]; exact hle)
   unfold rnOf
   simp only [this]
  have h16 : (m.set s.n.toNat fun n => { n with data := overB (growB n.data (s.a.toNat + many)) s.a.toNat ((bts c.d).take many) }).tab = m.tab := rfl
  refine ⟨hs2.limit, hs2.next, hs2.nodes, hs2.ents, ?_⟩
  simp only [h16, e2]
  exact h.fds.seek hI.tab16 hs (by omega)
theorem Inv.short (hI : Inv N Nul m) (c : Cl) (n : Int) : Inv N Nul (shortP m c n).2 := by
 unfold shortP
 by_cases c1 : c.k ≠ 4 ∨ n < 0 ∨ (c.d.size : Int) < n
 · rw [if_pos c1]; exact hI
 · rw [if_neg c1]
   exact hI.putP c (by omega)
theorem Sim.seen (hI : Inv N Nul m) (h : Sim m r) : ∀ (f k : Nat) (p : Bs), seenR r f k p = seenP m f k p
 | 0, _, _ => rfl
 | f + 1, k, p => by
  rw [seenR, seenP, h.kind]
  by_cases c : m.kd k = 2
  · obtain ⟨d, hd, h2⟩ := get_kind2 c
    rw [if_neg (by simpa using c), h.names hI hd, Md.get_look hd]
    congr 1
    rw [List.flatMap_def, List.flatMap_def, List.map_map]
    congr 1
    refine List.map_congr_left fun y hy => ?_
    simp only [Function.comp_apply]
    have : r.ent k y.1 = some ⟨k, y.1, y.2⟩ := by
     rw [h.ent hI, Md.get_look hd, lookN_of_mem (hI.shape k d hd).2.1 hy]
     rfl
    rw [this]
    exact h.seen hI f y.2 _
  · rw [if_pos (by simpa using c)]
    have hn : (m.get k).names = [] := by
     cases hk : lookK m.nodes k with
     | none => rw [Md.get, hk]; rfl
     | some d =>
      rw [Md.get_look hk]
      rw [Md.kd_look hk] at c
      rcases (hI.shape k d hk).1 with ⟨_, q⟩ | ⟨q, _⟩
      · exact q
      · exact absurd q c
    rw [hn]
    rfl
theorem Sim.all (hI : Inv N Nul m) (h : Sim m r) : allR r = allP m := by
 unfold allR allP
 rw [h.seen hI, h.nodes, rn_len]
theorem Sim.view (hI : Inv N Nul m) (h : Sim m r) : viewR r = viewP m := by
 unfold viewR viewP
 rw [h.all hI]
 simp only []
 refine List.map_congr_left fun z hz => ?_
 obtain ⟨d, hd⟩ := all_there hI z hz
 rw [h.stat hI hd, h.data]
theorem filterMap_same4 {α β : Type} {f g : α → Option β} : ∀ {l : List α}, (∀ x ∈ l, f x = g x) → l.filterMap f = l.filterMap g
 | [], _ => rfl
 | x :: l, h => by
  rw [List.filterMap_cons, List.filterMap_cons, h x (by simp), filterMap_same4 fun y hy => h y (List.mem_cons_of_mem _ hy)]
theorem Sim.opened (hI : Inv N Nul m) (h : Sim m r) : openedR r = openedP m := by
 unfold openedR openedP
 rw [h.all hI]
 simp only []
 refine filterMap_same4 fun i hi => ?_
 have hi := List.mem_range.1 hi
 cases hs : slotOf m.tab (i : Int) with
 | none =>
  rw [h.fd_none hs]
  obtain ⟨s, h1, h2⟩ := (slot_closed hI.tab16 hi).1 hs
  rw [h1]
  simp [h2]
 | some s =>
  obtain ⟨x, hx, hfx, x1, x2, x3⟩ := h.fd_some hs
  rw [hfx]
  obtain ⟨_, _, h1, h2⟩ := slotOf_some hs
  rw [Int.toNat_natCast] at h1
  rw [h1]
  obtain ⟨a1, a2, k, d, a3, a4, a5⟩ := hI.tab _ s hs
  have hxn : x.n = k := by omega
  have hsn : s.n.toNat = k := by omega
  simp only [h2, if_true, hxn, hsn, x3, h.size hI a4, Md.get_look a4]
  have hn : d.names = [] := by
   rcases (hI.shape k d a4).1 with ⟨_, q⟩ | ⟨q, _⟩
   · exact q
   · omega
  rw [hn]
  simp
theorem Inv.again_aux : ∀ (l : List Nat) {m : Md}, Inv N (fun j => Nul j ∨ j ∈ l) m → (∀ k ∈ l, ∀ d, lookK m.nodes k = some d → d.kind = 1) → Inv N Nul (l.foldl (fun m k => goneP m k) m)
 | [], m, h, _ => h.weak fun j q => by
  rcases q with q | q
  · exact q
  · cases q
 | k :: l, m, h, hk => by
  rw [List.foldl_cons]
  refine Inv.again_aux l (Inv.gone (X := fun j => Nul j ∨ j ∈ l) ?_ (hk k (by simp))) ?_
  · refine h.weak fun j q => ?_
    rcases q with q | q
    · exact .inl (.inl q)
    · rcases List.mem_cons.1 q with q | q
      · exact .inr q
      · exact .inl (.inr q)
  · intro j hj d hd
    refine hk j (List.mem_cons_of_mem _ hj) d ?_
    unfold goneP at hd
    split at hd
    · have hd' : lookK (m.nodes.filter fun p => !(p.1 == k)) j = some d := hd
      rw [lookK_filter] at hd'
      split at hd'
      · cases hd'
      · exact hd'
    · exact hd
theorem rn_again : ∀ (l : List Nat) (m : Md), ∃ Q : Nat → Bool, (l.foldl (fun m k => goneP m k) m).rn = m.rn.filter fun n => Q n.id
 | [], m => ⟨fun _ => true, by rw [List.filter_eq_self.2 (fun _ _ => rfl)]; rfl⟩
 | k :: l, m => by
  rw [List.foldl_cons]
  obtain ⟨Q, h1⟩ := rn_again l (goneP m k)
  obtain ⟨Q', h2⟩ := rn_gone (m := m) (k := k)
  refine ⟨fun i => Q i && Q' i, ?_⟩
  rw [h1, h2, List.filter_filter]
theorem same_again : ∀ (l : List Nat) (m : Md), (l.foldl (fun m k => goneP m k) m).tab = m.tab ∧ (l.foldl (fun m k => goneP m k) m).limit = m.limit ∧ (l.foldl (fun m k => goneP m k) m).next = m.next
 | [], m => ⟨rfl, rfl, rfl⟩
 | k :: l, m => by
  rw [List.foldl_cons]
  obtain ⟨h1, h2, h3⟩ := same_again l (goneP m k)
  have h4 : (goneP m k).tab = m.tab ∧ (goneP m k).limit = m.limit ∧ (goneP m k).next = m.next := by unfold goneP; split <;> exact ⟨rfl, rfl, rfl⟩
  exact ⟨h1.trans h4.1, h2.trans h4.2.1, h3.trans h4.2.2⟩
theorem ents_again : ∀ (l : List Nat) {m : Md}, Rise m.nodes → (∀ k ∈ l, ∀ d, lookK m.nodes k = some d → d.names = []) → entsOf (l.foldl (fun m k => goneP m k) m).nodes = entsOf m.nodes
 | [], m, _, _ => rfl
 | k :: l, m, hr, hn => by
  rw [List.foldl_cons]
  have h1 : entsOf (goneP m k).nodes = entsOf m.nodes ∧ Rise (goneP m k).nodes ∧ ∀ j d, lookK (goneP m k).nodes j = some d → lookK m.nodes j = some d := by
   unfold goneP
   split
   · refine ⟨?_, rise_filter hr, fun j d hd => ?_⟩
     · show entsOf (m.nodes.filter fun p => !(p.1 == k)) = entsOf m.nodes
       cases hl : lookK m.nodes k with
       | none =>
        rw [List.filter_eq_self.2 (fun p hp => by
         have h9 : p.1 ≠ k := fun q => by
          have := look_mem hr (k := p.1) (d := p.2) hp
          rw [q, hl] at this
          cases this
         simpa using h9)]
       | some d => rw [ents_gone hr hl (hn k (by simp) d hl)]
     · have hd' : lookK (m.nodes.filter fun p => !(p.1 == k)) j = some d := hd
       rw [lookK_filter] at hd'
       split at hd'
       · cases hd'
       · exact hd'
   · exact ⟨rfl, hr, fun _ _ hd => hd⟩
  rw [ents_again l h1.2.1 (fun j hj d hd => hn j (List.mem_cons_of_mem _ hj) d (h1.2.2 j d hd)), h1.1]
theorem mem_compact (zs : List Int) (x : Int) : x ∈ Lib.compact zs ↔ x ∈ zs := by
 unfold Lib.compact Lib.compactUpTo
 rw [List.mem_map]
 constructor
 · rintro ⟨j, hj, rfl⟩
   have hj := List.mem_range.1 (List.mem_filter.1 hj).1
   rw [getElem!_pos zs.toArray j (by simpa using hj)]
   simp
 · intro hx
   obtain ⟨j, hj, rfl⟩ := List.getElem_of_mem hx
   have key : ∀ j, j < zs.length → ∃ i, i ∈ (List.range zs.length).filter (Lib.keeps zs.toArray) ∧ zs.toArray[i]! = zs.toArray[j]! := by
    intro j
    induction j with
    | zero =>
     intro hj
     exact ⟨0, List.mem_filter.2 ⟨List.mem_range.2 hj, by simp [Lib.keeps]⟩, rfl⟩
    | succ j ih =>
     intro hj
     by_cases c : zs.toArray[j + 1]! = zs.toArray[j]!
     · obtain ⟨i, h1, h2⟩ := ih (by omega)
       exact ⟨i, h1, h2.trans c.symm⟩
     · exact ⟨j + 1, List.mem_filter.2 ⟨List.mem_range.2 hj, Lib.keeps_pos (by simpa using c)⟩, rfl⟩
   obtain ⟨i, h1, h2⟩ := key j hj
   refine ⟨i, h1, h2.trans ?_⟩
   rw [getElem!_pos zs.toArray j (by simpa using hj)]
   simp
theorem mem_nodesOf {T : List Sl} (hT : T.length = 16) {n : Int} : n ∈ nodesOf T ↔ tHas T n = true := by
 unfold nodesOf
 rw [mem_compact, List.mem_mergeSort]
 unfold openN tHas
 rw [List.take_of_length_le (by omega), List.mem_map, List.any_eq_true]
 constructor
 · rintro ⟨s, hs, rfl⟩
   obtain ⟨h1, h2⟩ := List.mem_filter.1 hs
   exact ⟨s, h1, by simp [hasP, h2]⟩
 · rintro ⟨s, hs, hp⟩
   simp only [hasP, Bool.and_eq_true, beq_iff_eq] at hp
   exact ⟨s, List.mem_filter.2 ⟨hs, hp.1⟩, hp.2⟩
theorem Sim.again (hI : Inv N Nul m) (h : Sim m r) : Inv N Nul (againP m) ∧ Sim (againP m) (againR r) := by
 obtain ⟨l, hl⟩ : ∃ l : List Nat, l = (nodesOf m.tab).map (·.toNat) := ⟨_, rfl⟩
 have e : againP m = l.foldl (fun m k => goneP m k) { m with tab := zeroT } := by
  rw [hl, List.foldl_map]
  rfl
 have hmem : ∀ k : Nat, tHas m.tab (k : Int) = true → k ∈ l := fun k hk => by
  rw [hl]
  exact List.mem_map.2 ⟨(k : Int), (mem_nodesOf hI.tab16).2 hk, Int.toNat_natCast k⟩
 have hkind : ∀ k ∈ l, ∀ d, lookK m.nodes k = some d → d.kind = 1 ∧ d.names = [] := fun k hk d hd => by
  rw [hl] at hk
  obtain ⟨n, hn, rfl⟩ := List.mem_map.1 hk
  obtain ⟨fd, s, h1, h2⟩ := has_slotOf hI.tab16 ((mem_nodesOf hI.tab16).1 hn)
  obtain ⟨_, _, i, d', h3, h4, h5⟩ := hI.tab fd s h1
  have : n.toNat = i := by omega
  rw [this, h4] at hd
  cases hd
  refine ⟨h5, ?_⟩
  rcases (hI.shape _ _ h4).1 with ⟨_, q⟩ | ⟨q, _⟩
  · exact q
  · omega
 have hI0 : Inv N (fun j => Nul j ∨ j ∈ l) { m with tab := zeroT } := by
  refine hI.tabbed (by rfl) (fun fd s hs => ?_) (fun k q => ?_)
  · rw [slotOf_zero] at hs
    cases hs
  · rcases q with q | q
    · exact .inl (.inl q)
    · exact .inl (.inr (hmem k q))
 have hA : Inv N Nul (againP m) := by
  rw [e]
  exact Inv.again_aux l hI0 (fun k hk d hd => (hkind k hk d hd).1)
 refine ⟨hA, ?_⟩
 obtain ⟨s1, s2, s3⟩ := same_again l { m with tab := zeroT }
 obtain ⟨Q, hQ⟩ := rn_again l { m with tab := zeroT }
 have hE := ents_again l (m := { m with tab := zeroT }) hI.rise (fun k hk d hd => (hkind k hk d hd).2)
 rw [← e] at s1 s2 s3 hQ hE
 unfold againR
 refine sweep_sim hA ?_ ?_ ?_ ?_ (Q := Q) ?_
 · rw [s2]; exact h.limit
 · rw [s3]; exact h.next
 · rw [hE]; exact h.ents
 · rw [s1]
   exact ⟨(fun x hx => by cases hx), (fun fd s hs => by have hs : slotOf zeroT fd = some s := hs; rw [slotOf_zero] at hs; cases hs), List.nodup_nil⟩
 · rw [hQ, show ({ m with tab := zeroT } : Md).rn = m.rn from rfl, ← h.nodes]
theorem Sim.new (n : Nat) : Sim (newP n) (newRM n) := by
 refine ⟨rfl, rfl, rfl, List.Perm.refl _, ?_⟩
 exact ⟨(fun x hx => by cases hx), (fun fd s hs => by have hs : slotOf zeroT fd = some s := hs; rw [slotOf_zero] at hs; cases hs), List.nodup_nil⟩
end
end Go.Proofs.YtppdihpobokfnaaGreatDoor
set_option linter.unusedVariables false
set_option linter.unusedSimpArgs false
namespace Go.Proofs.YtppdihpobokfnaaGreatDoor
open Go Go.RowKit
structure RFull (r : RM) : Prop where
 root : ∃ x, r.nd 0 = some x ∧ x.kind = 2
 edir : ∀ e ∈ r.ents, ∃ x, r.nd e.dir = some x ∧ x.kind = 2
 enode : ∀ e ∈ r.ents, ∃ x, r.nd e.node = some x
 fnode : ∀ x ∈ r.fds, (∃ y, r.nd x.n = some y ∧ y.kind = 1) ∧ x.a ≤ 262144 ∧ x.f < 16
 nodes : r.nodes.length ≤ 1000000
 ents : r.ents.length ≤ 1000000
 fds : r.fds.length ≤ 16
 next : r.next ≤ 1000000
 limit : r.limit ≤ 1000000
 data : ∀ x ∈ r.nodes, x.data.length ≤ 262144 ∧ (x.kind = 1 ∨ x.kind = 2)
 ids : (r.nodes.map (·.id)).Pairwise (· < ·)
 below : ∀ x ∈ r.nodes, x.id < r.next
 names : ∀ e ∈ r.ents, OkName e.name
 one : (r.fds.map (·.f)).Nodup
section
variable {N : Nat} {X : Nat → Prop} {m : Md} {r : RM}
theorem rn_ids (m : Md) : m.rn.map (·.id) = m.nodes.map (·.1) := by
 rw [Md.rn, List.map_map]; rfl
theorem Sim.full (hI : Inv N X m) (hN : N ≤ 900000) (h : Sim m r) : RFull r := by
 have look : ∀ {k : Nat} {d : Nd}, lookK m.nodes k = some d → r.nd k = some (rnOf (k, d)) := fun hd => by rw [h.nd, hd]; rfl
 refine ⟨?_, fun e he => ?_, fun e he => ?_, fun x hx => ?_, ?_, ?_, ?_, ?_, ?_, fun x hx => ?_, ?_, fun x hx => ?_, fun e he => ?_, h.fds.one⟩
 · obtain ⟨d, h1, h2, _⟩ := hI.root
   exact ⟨_, look h1, h2⟩
 · obtain ⟨d, hd, hm⟩ := hI.mem.1 (h.ents.mem_iff.1 he)
   refine ⟨_, look hd, ?_⟩
   rcases (hI.shape _ _ hd).1 with ⟨_, q⟩ | ⟨q, _⟩
   · rw [q] at hm; cases hm
   · exact q
 · obtain ⟨_, d, hd, _⟩ := hI.there e (h.ents.mem_iff.1 he)
   exact ⟨_, look hd⟩
 · have h1 := h.fds.to x hx
   obtain ⟨h2, h3, k, d, e1, e2, e3⟩ := hI.tab _ _ h1
   have e1' : x.n = k := by have : (x.n : Int) = (k : Int) := e1; omega
   refine ⟨⟨_, look (e1' ▸ e2), e3⟩, ?_, h.fds.lt hx⟩
   have : (x.a : Int) ≤ 262144 := h3
   omega
 · have := hI.many; have := hI.limit
   rw [h.nodes, Md.rn, List.length_map]; omega
 · rw [h.ents.length_eq]; have := hI.few; omega
 · have := nodup_len h.fds.one (l' := List.range 16) (fun f hf => by
    obtain ⟨x, hx, rfl⟩ := List.mem_map.1 hf
    exact List.mem_range.2 (h.fds.lt hx))
   simpa using this
 · rw [h.next]; have := hI.next; omega
 · rw [h.limit]; exact hI.limit
 · rw [h.nodes, Md.rn] at hx
   obtain ⟨p, hp, rfl⟩ := List.mem_map.1 hx
   have hd := look_mem (k := p.1) (d := p.2) hI.rise hp
   refine ⟨(hI.shape _ _ hd).2.2, ?_⟩
   rcases (hI.shape _ _ hd).1 with ⟨q, _⟩ | ⟨q, _⟩
   · exact .inl q
   · exact .inr q
 · rw [h.nodes, rn_ids]; exact hI.rise
 · rw [h.nodes, Md.rn] at hx
   obtain ⟨p, hp, rfl⟩ := List.mem_map.1 hx
   rw [h.next]; exact hI.lt p hp
 · exact hI.nm e (h.ents.mem_iff.1 he)
end
theorem erase_at {α : Type} {p : α → Bool} : ∀ {l : List α} {i : Nat} {x : α}, l[i]? = some x → p x = true → (∀ j < i, ∃ y, l[j]? = some y ∧ p y = false) → l.eraseP p = l.take i ++ l.drop (i + 1)
 | [], i, x, h, _, _ => by simp at h
 | a :: l, 0, x, h, hp, _ => by
  simp at h; subst h
  rw [List.eraseP_cons_of_pos hp]; simp
 | a :: l, i + 1, x, h, hp, hj => by
  obtain ⟨y, h1, h2⟩ := hj 0 (by omega)
  simp at h1; subst h1
  rw [List.eraseP_cons_of_neg (by rw [h2]; simp), erase_at (by simpa using h) hp (fun j hj' => by
   obtain ⟨y, h1, h2⟩ := hj (j + 1) (by omega)
   exact ⟨y, by simpa using h1, h2⟩)]
  simp
theorem map_at {α : Type} {c : α → Bool} {f : α → α} : ∀ {l : List α} {i : Nat} {x : α}, l[i]? = some x → c x = true → (∀ j y, l[j]? = some y → j ≠ i → c y = false) → (l.map fun z => if c z = true then f z else z) = l.set i (f x)
 | [], i, x, h, _, _ => by simp at h
 | a :: l, 0, x, h, hc, hj => by
  simp at h; subst h
  rw [List.map_cons, if_pos hc, List.set_cons_zero]
  congr 1
  have : ∀ z ∈ l, (if c z = true then f z else z) = z := fun z hz => by
   obtain ⟨j, hj', e⟩ := List.getElem_of_mem hz
   have := hj (j + 1) z (by rw [List.getElem?_cons_succ, List.getElem?_eq_getElem hj', e]) (by omega)
   rw [this]; simp
  rw [List.map_congr_left this, List.map_id']
 | a :: l, i + 1, x, h, hc, hj => by
  have h0 := hj 0 a rfl (by omega)
  rw [List.map_cons, h0, List.set_cons_succ, map_at (by simpa using h) hc (fun j y hy hne => hj (j + 1) y (by simpa using hy) (by omega))]
  simp
theorem ids_at {r : RM} (h : (r.nodes.map (·.id)).Pairwise (· < ·)) {i j : Nat} {x y : RN} (hx : r.nodes[i]? = some x) (hy : r.nodes[j]? = some y) (e : x.id = y.id) : i = j := by
 rw [List.pairwise_iff_getElem] at h
 obtain ⟨hi, ei⟩ := List.getElem?_eq_some_iff.1 hx
 obtain ⟨hj, ej⟩ := List.getElem?_eq_some_iff.1 hy
 rcases Nat.lt_trichotomy i j with c | c | c
 · have := h i j (by simpa using hi) (by simpa using hj) c
   simp only [List.getElem_map, ei, ej] at this
   omega
 · exact c
 · have := h j i (by simpa using hj) (by simpa using hi) c
   simp only [List.getElem_map, ei, ej] at this
   omega
theorem setR_at {r : RM} (h : (r.nodes.map (·.id)).Pairwise (· < ·)) {i k : Nat} {x : RN} (hx : r.nodes[i]? = some x) (hk : x.id = k) (f : RN → RN) : setR r k f = { r with nodes := r.nodes.set i (f x) } := by
 unfold setR
 congr 1
 rw [← map_at (c := fun z => z.id == k) (f := f) hx (by simpa using hk) (fun j y hy hne => by
  have : y.id ≠ k := fun e => hne (ids_at h hy hx (e.trans hk.symm))
  simpa using this)]
 exact List.map_congr_left fun z _ => by simp
theorem fds_at {r : RM} (h : (r.fds.map (·.f)).Nodup) {i j : Nat} {x y : RF} (hx : r.fds[i]? = some x) (hy : r.fds[j]? = some y) (e : x.f = y.f) : i = j := by
 obtain ⟨hi, ei⟩ := List.getElem?_eq_some_iff.1 hx
 obtain ⟨hj, ej⟩ := List.getElem?_eq_some_iff.1 hy
 unfold List.Nodup at h
 rw [List.pairwise_iff_getElem] at h
 rcases Nat.lt_trichotomy i j with c | c | c
 · have := h i j (by simpa using hi) (by simpa using hj) c
   simp only [List.getElem_map, ei, ej] at this
   exact absurd e this
 · exact c
 · have := h j i (by simpa using hj) (by simpa using hi) c
   simp only [List.getElem_map, ei, ej] at this
   exact absurd e.symm this
theorem setF_at {r : RM} (h : (r.fds.map (·.f)).Nodup) {i : Nat} {fd : Int} {x : RF} (hx : r.fds[i]? = some x) (hk : (x.f : Int) = fd) (a : Nat) : setF r fd a = { r with fds := r.fds.set i ⟨x.f, x.n, a⟩ } := by
 unfold setF
 congr 1
 rw [← map_at (c := fun z : RF => (z.f : Int) == fd) (f := fun z => ⟨z.f, z.n, a⟩) hx (by simpa using hk) (fun j y hy hne => by
  have : (y.f : Int) ≠ fd := fun e => hne (fds_at h hy hx (by omega))
  simpa using this)]
 exact List.map_congr_left fun z _ => by simp
end Go.Proofs.YtppdihpobokfnaaGreatDoor
set_option linter.unusedVariables false
set_option linter.unusedSimpArgs false
namespace Go.Proofs.YtppdihpobokfnaaGreatDoor
open Go Go.RowKit
theorem less_before : ∀ (a b : Bs), Op.bytesLess a b = bytesBefore a b
 | [], [] => by simp [Op.bytesLess, bytesBefore]
 | _ :: _, [] => by simp [Op.bytesLess, bytesBefore]
 | [], _ :: _ => by simp [Op.bytesLess, bytesBefore]
 | a :: x, b :: y => by
  rw [Op.bytesLess, less_before x y, bytesBefore]
theorem insR_at {x : Bs} : ∀ {l : List Bs} {m : Nat}, m ≤ l.length → (∀ j < m, ∃ y, l[j]? = some y ∧ bytesBefore y x = true) → (∀ y, l[m]? = some y → bytesBefore y x = false) → insR x l = l.take m ++ x :: l.drop m
 | [], m, hm, _, _ => by
  obtain rfl : m = 0 := by simpa using hm
  rfl
 | y :: l, 0, _, _, h => by
  have := h y rfl
  simp [insR, this]
 | y :: l, m + 1, hm, hj, h => by
  obtain ⟨z, h1, h2⟩ := hj 0 (by omega)
  simp at h1; subst h1
  rw [insR, if_pos h2, insR_at (m := m) (by simpa using hm) (fun j hj' => by
   obtain ⟨z, h3, h4⟩ := hj (j + 1) (by omega)
   exact ⟨z, by simpa using h3, h4⟩) (fun z hz => h z (by simpa using hz))]
  simp
def namesTo (r : RM) (k i : Nat) : List Bs := ((r.ents.take i).filter fun e => e.dir == k).foldl (fun acc e => insR e.name acc) []
theorem namesTo_zero (r : RM) (k : Nat) : namesTo r k 0 = [] := rfl
theorem namesTo_all (r : RM) (k : Nat) : namesTo r k r.ents.length = namesR r k := by unfold namesTo namesR; rw [List.take_length]
theorem namesTo_yes {r : RM} {k i : Nat} {e : RE} (h : r.ents[i]? = some e) (hd : e.dir = k) : namesTo r k (i + 1) = insR e.name (namesTo r k i) := by
 unfold namesTo
 rw [List.take_add_one, h, List.filter_append, List.foldl_append]
 simp [hd]
theorem namesTo_no {r : RM} {k i : Nat} {e : RE} (h : r.ents[i]? = some e) (hd : e.dir ≠ k) : namesTo r k (i + 1) = namesTo r k i := by
 unfold namesTo
 rw [List.take_add_one, h, List.filter_append, List.foldl_append]
 simp [hd]
theorem insR_len (x : Bs) : ∀ l : List Bs, (insR x l).length = l.length + 1 := fun l => by
 have := (insR_perm x l).length_eq
 simpa using this
theorem namesTo_len (r : RM) (k : Nat) : ∀ i, (namesTo r k i).length ≤ i
 | 0 => by simp [namesTo_zero]
 | i + 1 => by
  have ih := namesTo_len r k i
  cases h : r.ents[i]? with
  | none =>
   have : namesTo r k (i + 1) = namesTo r k i := by unfold namesTo; rw [List.take_add_one, h]; simp
   rw [this]; omega
  | some e =>
   by_cases hd : e.dir = k
   · rw [namesTo_yes h hd, insR_len]; omega
   · rw [namesTo_no h hd]; omega
end Go.Proofs.YtppdihpobokfnaaGreatDoor
set_option linter.unusedVariables false
set_option linter.unusedSimpArgs false
namespace Go.Proofs.YtppdihpobokfnaaGreatDoor
open Go Go.RowKit
def rnC (x : RN) : List Value := [.int .i64 (x.id : Int), .int .i64 x.kind, .bool x.pin, .string (tx x.data)]
def reC (x : RE) : List Value := [.int .i64 (x.dir : Int), .string (tx x.name), .int .i64 (x.node : Int)]
def rfC (x : RF) : List Value := [.int .i64 (x.f : Int), .int .i64 (x.n : Int), .int .i64 (x.a : Int)]
section
variable {α : Type} {f : α → List Value} {sz : Nat}
theorem el_len (hf : ∀ x, (f x).length = sz) : ∀ l : List α, (l.flatMap f).length = l.length * sz
 | [] => by simp
 | x :: l => by rw [List.flatMap_cons, List.length_append, el_len hf l, hf, List.length_cons, Nat.succ_mul]; omega
theorem el_at (hf : ∀ x, (f x).length = sz) : ∀ (l : List α) (k : Nat) (x : α), l[k]? = some x → ∀ j v, (f x)[j]? = some v → (l.flatMap f)[k * sz + j]? = some v
 | [], k, x, h, j, v, hv => by simp at h
 | y :: l, 0, x, h, j, v, hv => by
  simp at h; subst h
  rw [List.flatMap_cons, Nat.zero_mul, Nat.zero_add, List.getElem?_append_left (List.getElem?_eq_some_iff.1 hv).1, hv]
 | y :: l, k + 1, x, h, j, v, hv => by
  have hh := el_at hf l k x (by simpa using h) j v hv
  have e : (k + 1) * sz + j = sz + (k * sz + j) := by rw [Nat.succ_mul]; omega
  rw [List.flatMap_cons, List.getElem?_append_right (by rw [hf, e]; omega), hf, e, Nat.add_sub_cancel_left, hh]
theorem el_set (hf : ∀ x, (f x).length = sz) : ∀ (l : List α) (k : Nat) (x x' : α) (j : Nat) (v : Value), l[k]? = some x → j < sz → f x' = (f x).set j v → (l.flatMap f).set (k * sz + j) v = (l.set k x').flatMap f
 | [], k, x, x', j, v, h, _, _ => by simp at h
 | y :: l, 0, x, x', j, v, h, hj, e => by
  simp at h; subst h
  rw [List.set_cons_zero, List.flatMap_cons, List.flatMap_cons, Nat.zero_mul, Nat.zero_add, List.set_append_left _ _ (by rw [hf]; exact hj), e]
 | y :: l, k + 1, x, x', j, v, h, hj, e => by
  have hh := el_set hf l k x x' j v (by simpa using h) hj e
  have e2 : (k + 1) * sz + j = sz + (k * sz + j) := by rw [Nat.succ_mul]; omega
  rw [List.set_cons_succ, List.flatMap_cons, List.flatMap_cons, ← hh, List.set_append_right _ _ (by rw [hf, e2]; omega), hf, e2, Nat.add_sub_cancel_left]
theorem el_take (hf : ∀ x, (f x).length = sz) : ∀ (l : List α) (k : Nat), (l.flatMap f).take (k * sz) = (l.take k).flatMap f
 | [], k => by simp
 | y :: l, 0 => by simp
 | y :: l, k + 1 => by
  have e2 : (k + 1) * sz = (f y).length + k * sz := by rw [Nat.succ_mul, hf]; omega
  rw [List.flatMap_cons, e2, List.take_length_add_append, List.take_succ_cons, List.flatMap_cons, el_take hf l k]
theorem el_drop (hf : ∀ x, (f x).length = sz) : ∀ (l : List α) (k : Nat), (l.flatMap f).drop (k * sz) = (l.drop k).flatMap f
 | [], k => by simp
 | y :: l, 0 => by simp
 | y :: l, k + 1 => by
  have e2 : (k + 1) * sz = (f y).length + k * sz := by rw [Nat.succ_mul, hf]; omega
  rw [List.flatMap_cons, e2, List.drop_length_add_append, List.drop_succ_cons, el_drop hf l k]
theorem own_el {W : World} {base : Nat} {e : TypeId} {v : Value} {l : List α} (hf : ∀ x, (f x).length = sz) (h : W.ownsRow base e sz v l.length (l.flatMap f)) {k : Nat} {x : α} (hx : l[k]? = some x) :
  ∃ g cap, v = .slice (some ⟨g, 0, none⟩) l.length cap ∧ g < W.heap.size ∧ l.length ≤ cap ∧ ∀ j u, (f x)[j]? = some u → W.cell? ⟨g, k * sz + j, none⟩ = some u ∧ W.frozen? ⟨g, k * sz + j, none⟩ = false := by
 have hk := (List.getElem?_eq_some_iff.1 hx).1
 have h' := h
 rcases h'.2 with ⟨_, h0⟩ | ⟨g, cap, cur, rfl, hg, hb, hc, _⟩
 · omega
 · refine ⟨g, cap, rfl, (Array.getElem?_eq_some_iff.1 hb).1, hc, fun j u hj => ?_⟩
   have hjs : j < sz := by have := (List.getElem?_eq_some_iff.1 hj).1; rw [hf] at this; exact this
   have hlt : k * sz + j < l.length * sz := by
    have : (k + 1) * sz ≤ l.length * sz := Nat.mul_le_mul_right _ hk
    rw [Nat.succ_mul] at this; omega
   exact ⟨by rw [h.cellAt _ hlt]; exact el_at hf l k x hx j u hj, h.frozenAt _⟩
theorem own_store {W : World} {base : Nat} {e : TypeId} {g n cap : Nat} {l : List α} (hf : ∀ x, (f x).length = sz) (h : W.ownsRow base e sz (.slice (some ⟨g, 0, none⟩) l.length cap) l.length (l.flatMap f)) {k j : Nat} {x x' : α} {u : Value} (hx : l[k]? = some x) (hj : j < sz) (he : f x' = (f x).set j u) :
  (W.setCell ⟨g, k * sz + j, none⟩ u).ownsRow base e sz (.slice (some ⟨g, 0, none⟩) l.length cap) (l.set k x').length ((l.set k x').flatMap f) := by
 rw [List.length_set, ← el_set hf l k x x' j u hx hj he]
 exact (h.stored _ _).1
end
theorem own_kind {W : World} {base : Nat} {e : TypeId} {sz n : Nat} {v : Value} {xs : List Value} (h : W.ownsRow base e sz v n xs) {k : Nat} (hk : v.ownBlock = some k) : ∃ cur, W.heap[k]? = some (.cells cur e (0, 0)) := by
 rcases h.2 with ⟨rfl, _⟩ | ⟨g, cap, cur, rfl, _, hb, _⟩
 · cases hk
 · cases hk; exact ⟨cur, hb⟩
theorem own_apart {W : World} {b1 b2 : Nat} {e1 e2 : TypeId} {s1 s2 n1 n2 : Nat} {v1 v2 : Value} {x1 x2 : List Value} (h1 : W.ownsRow b1 e1 s1 v1 n1 x1) (h2 : W.ownsRow b2 e2 s2 v2 n2 x2) (he : e1 ≠ e2) {k : Nat} (hk : v1.ownBlock = some k) : v2.ownBlock ≠ some k := by
 intro q
 obtain ⟨c1, e1'⟩ := own_kind h1 hk
 obtain ⟨c2, e2'⟩ := own_kind h2 q
 rw [e1'] at e2'
 injection e2' with e2'
 injection e2' with _ e2'
 exact he e2'
theorem own_same {W W' : World} {base : Nat} {e : TypeId} {sz n : Nat} {v : Value} {xs : List Value} (h : W.ownsRow base e sz v n xs) (hs : ∀ b, v.ownBlock = some b → W'.heap[b]? = W.heap[b]?) : W'.ownsRow base e sz v n xs := by
 refine ⟨h.1, ?_⟩
 rcases h.2 with h0 | ⟨g, cap, cur, rfl, hg, hh, r⟩
 · exact .inl h0
 · exact .inr ⟨g, cap, cur, rfl, hg, (hs g rfl).trans hh, r⟩
theorem own_base {W : World} {base base' : Nat} {e : TypeId} {sz n : Nat} {v : Value} {xs : List Value} (h : W.ownsRow base' e sz v n xs) (hb : base ≤ base') : W.ownsRow base e sz v n xs := by
 refine ⟨h.1, ?_⟩
 rcases h.2 with h0 | ⟨g, cap, cur, hv, hg, r⟩
 · exact .inl h0
 · exact .inr ⟨g, cap, cur, hv, by omega, r⟩
structure Rr where
 b : Nat
 vn : Value
 ve : Value
 vf : Value
def Rr.O (Q : Rr) (k : Nat) : Prop := k = Q.b ∨ Q.vn.ownBlock = some k ∨ Q.ve.ownBlock = some k ∨ Q.vf.ownBlock = some k
structure DocAt (W : World) (Q : Rr) (r : RM) : Prop where
 row : RowAt W Q.b [.int .i64 (r.limit : Int), .int .i64 (r.next : Int), Q.vn, Q.ve, Q.vf]
 nodes : W.ownsRow 0 93 4 Q.vn r.nodes.length (r.nodes.flatMap rnC)
 ents : W.ownsRow 0 148 3 Q.ve r.ents.length (r.ents.flatMap reC)
 fds : W.ownsRow 0 108 3 Q.vf r.fds.length (r.fds.flatMap rfC)
 far : ∀ k, Q.vn.ownBlock = some k ∨ Q.ve.ownBlock = some k ∨ Q.vf.ownBlock = some k → k ≠ Q.b
structure Turns (O O' : Nat → Prop) (W W' : World) : Prop where
 os : W'.os = W.os
 tape : W'.tape = W.tape
 output : W'.output = W.output
 size : W.heap.size ≤ W'.heap.size
 block : ∀ b, b < W.heap.size → ¬ O b → W'.heap[b]? = W.heap[b]?
 own : ∀ b, b < W.heap.size → O' b → O b
section
variable {O O' O'' : Nat → Prop} {W W' W1 W2 W3 : World}
theorem Turns.refl (O : Nat → Prop) (W : World) : Turns O O W W := ⟨rfl, rfl, rfl, Nat.le_refl _, fun _ _ _ => rfl, fun _ _ h => h⟩
theorem Turns.trans (h : Turns O O' W1 W2) (h' : Turns O' O'' W2 W3) : Turns O O'' W1 W3 :=
 ⟨h'.os.trans h.os, h'.tape.trans h.tape, h'.output.trans h.output, Nat.le_trans h.size h'.size,
  fun b hb ho => (h'.block b (Nat.lt_of_lt_of_le hb h.size) (fun q => ho (h.own b hb q))).trans (h.block b hb ho),
  fun b hb q => h.own b hb (h'.own b (Nat.lt_of_lt_of_le hb h.size) q)⟩
theorem Turns.below (hb : Below W.heap.size W W') : Turns O O W W' := ⟨hb.os, hb.tape, hb.output, hb.size, fun b h _ => hb.block b h, fun _ _ h => h⟩
theorem Turns.row {b : Nat} {xs : List Value} (h : Turns O O' W W') (hr : RowAt W b xs) (hn : ¬ O b) : RowAt W' b xs ∧ ¬ O' b := ⟨hr.same (h.block b hr.lt hn), fun q => hn (h.own b hr.lt q)⟩
theorem Turns.under {B : Nat} (h : Turns O O' W W') (hO : ∀ b, b < B → ¬ O b) (hB : B ≤ W.heap.size) : Below B W W' := ⟨h.os, h.tape, h.output, h.size, fun b hb => h.block b (by omega) (hO b hb)⟩
end
theorem rnC_len (x : RN) : (rnC x).length = 4 := rfl
theorem reC_len (x : RE) : (reC x).length = 3 := rfl
theorem rfC_len (x : RF) : (rfC x).length = 3 := rfl
section
variable {W W' : World} {Q : Rr} {r : RM}
theorem DocAt.old (h : DocAt W Q r) {k : Nat} (hk : Q.O k) : k < W.heap.size := by
 rcases hk with rfl | hk | hk | hk
 · exact h.row.lt
 · exact (h.nodes.lt k hk).2
 · exact (h.ents.lt k hk).2
 · exact (h.fds.lt k hk).2
theorem DocAt.same (h : DocAt W Q r) (hs : ∀ k, Q.O k → W'.heap[k]? = W.heap[k]?) : DocAt W' Q r :=
 ⟨h.row.same (hs _ (.inl rfl)), own_same h.nodes (fun b q => hs b (.inr (.inl q))), own_same h.ents (fun b q => hs b (.inr (.inr (.inl q)))), own_same h.fds (fun b q => hs b (.inr (.inr (.inr q)))), h.far⟩
theorem DocAt.below (h : DocAt W Q r) (hb : Below W.heap.size W W') : DocAt W' Q r := h.same fun k hk => hb.block k (h.old hk)
theorem DocAt.drew (h : DocAt W Q r) : DocAt W.drew Q r := h.same fun _ _ => rfl
theorem DocAt.drewN (h : DocAt W Q r) (n : Nat) : DocAt (W.drewN n) Q r := h.same fun _ _ => rfl
theorem DocAt.alloc (h : DocAt W Q r) (o : Obj) : DocAt (W.alloc o) Q r := h.below ((Below.refl _ _).alloc (Nat.le_refl _) o)
theorem DocAt.cells (h : DocAt W Q r) : W.cell? ⟨Q.b, 0, none⟩ = some (.int .i64 (r.limit : Int)) ∧ W.cell? ⟨Q.b, 1, none⟩ = some (.int .i64 (r.next : Int)) ∧ W.cell? ⟨Q.b, 2, none⟩ = some Q.vn ∧ W.cell? ⟨Q.b, 3, none⟩ = some Q.ve ∧ W.cell? ⟨Q.b, 4, none⟩ = some Q.vf :=
 ⟨h.row.cell 0 (by simp), h.row.cell 1 (by simp), h.row.cell 2 (by simp), h.row.cell 3 (by simp), h.row.cell 4 (by simp)⟩
theorem DocAt.free (h : DocAt W Q r) {i : Nat} (hi : i < 5) : W.frozen? ⟨Q.b, i, none⟩ = false := h.row.frozen i (by simpa using hi)
theorem own_form5 {base : Nat} {e : TypeId} {sz n : Nat} {v : Value} {xs : List Value} (h : W.ownsRow base e sz v n xs) : ∃ a cap, v = .slice a n cap := by
 rcases h.2 with ⟨rfl, rfl⟩ | ⟨g, cap, cur, rfl, _⟩
 · exact ⟨none, 0, rfl⟩
 · exact ⟨_, cap, rfl⟩
theorem DocAt.node (h : DocAt W Q r) {i : Nat} {x : RN} (hx : r.nodes[i]? = some x) : ∃ g cap, Q.vn = .slice (some ⟨g, 0, none⟩) r.nodes.length cap ∧ g < W.heap.size ∧ W.cell? ⟨g, i * 4, none⟩ = some (.int .i64 (x.id : Int)) ∧ W.cell? ⟨g, i * 4 + 1, none⟩ = some (.int .i64 x.kind) ∧ W.cell? ⟨g, i * 4 + 2, none⟩ = some (.bool x.pin) ∧ W.cell? ⟨g, i * 4 + 3, none⟩ = some (.string (tx x.data)) := by
 obtain ⟨g, cap, e, hg, _, hA⟩ := own_el rnC_len h.nodes hx
 exact ⟨g, cap, e, hg, (hA 0 _ rfl).1, (hA 1 _ rfl).1, (hA 2 _ rfl).1, (hA 3 _ rfl).1⟩
theorem DocAt.ent (h : DocAt W Q r) {i : Nat} {x : RE} (hx : r.ents[i]? = some x) : ∃ g cap, Q.ve = .slice (some ⟨g, 0, none⟩) r.ents.length cap ∧ g < W.heap.size ∧ W.cell? ⟨g, i * 3, none⟩ = some (.int .i64 (x.dir : Int)) ∧ W.cell? ⟨g, i * 3 + 1, none⟩ = some (.string (tx x.name)) ∧ W.cell? ⟨g, i * 3 + 2, none⟩ = some (.int .i64 (x.node : Int)) := by
 obtain ⟨g, cap, e, hg, _, hA⟩ := own_el reC_len h.ents hx
 exact ⟨g, cap, e, hg, (hA 0 _ rfl).1, (hA 1 _ rfl).1, (hA 2 _ rfl).1⟩
theorem DocAt.fd (h : DocAt W Q r) {i : Nat} {x : RF} (hx : r.fds[i]? = some x) : ∃ g cap, Q.vf = .slice (some ⟨g, 0, none⟩) r.fds.length cap ∧ g < W.heap.size ∧ W.cell? ⟨g, i * 3, none⟩ = some (.int .i64 (x.f : Int)) ∧ W.cell? ⟨g, i * 3 + 1, none⟩ = some (.int .i64 (x.n : Int)) ∧ W.cell? ⟨g, i * 3 + 2, none⟩ = some (.int .i64 (x.a : Int)) := by
 obtain ⟨g, cap, e, hg, _, hA⟩ := own_el rfC_len h.fds hx
 exact ⟨g, cap, e, hg, (hA 0 _ rfl).1, (hA 1 _ rfl).1, (hA 2 _ rfl).1⟩
theorem set_free {b i : Nat} {v : Value} {k : Nat} (hk : k ≠ b) : (W.setCell ⟨b, i, none⟩ v).heap[k]? = W.heap[k]? := Below.heap_setCell _ _ _ _ hk
theorem set_turns {O O' : Nat → Prop} {b i : Nat} {v : Value} (hb : O b) (ho : ∀ k, k < W.heap.size → O' k → O k) : Turns O O' W (W.setCell ⟨b, i, none⟩ v) :=
 ⟨rfl, rfl, rfl, by simp [World.setCell], fun k _ hk => set_free (fun e => hk (e ▸ hb)), ho⟩
theorem DocAt.bn (h : DocAt W Q r) {k : Nat} (hk : Q.vn.ownBlock = some k) : k ≠ Q.b := h.far k (.inl hk)
theorem DocAt.be (h : DocAt W Q r) {k : Nat} (hk : Q.ve.ownBlock = some k) : k ≠ Q.b := h.far k (.inr (.inl hk))
theorem DocAt.bf (h : DocAt W Q r) {k : Nat} (hk : Q.vf.ownBlock = some k) : k ≠ Q.b := h.far k (.inr (.inr hk))
end
structure Kinds3 : Prop where
 ne : 93 ≠ 148
 nf : 93 ≠ 108
 ef : 148 ≠ 108
section
variable {W W' : World} {Q : Rr} {r : RM}
theorem DocAt.setN (K : Kinds3) (h : DocAt W Q r) {i j : Nat} {x x' : RN} {u : Value} (hx : r.nodes[i]? = some x) (hj : j < 4) (he : rnC x' = (rnC x).set j u) :
  ∃ g cap, Q.vn = .slice (some ⟨g, 0, none⟩) r.nodes.length cap ∧ g < W.heap.size ∧ (∃ v, W.cell? ⟨g, i * 4 + j, none⟩ = some v) ∧ W.frozen? ⟨g, i * 4 + j, none⟩ = false ∧ DocAt (W.setCell ⟨g, i * 4 + j, none⟩ u) Q { r with nodes := r.nodes.set i x' } ∧ Turns Q.O Q.O W (W.setCell ⟨g, i * 4 + j, none⟩ u) := by
 obtain ⟨g, cap, e, hg, hc, hA⟩ := own_el rnC_len h.nodes hx
 obtain ⟨v, hv⟩ : ∃ v, (rnC x)[j]? = some v := ⟨_, List.getElem?_eq_getElem (by rw [rnC_len]; exact hj)⟩
 have hb : Q.vn.ownBlock = some g := by rw [e]; rfl
 refine ⟨g, cap, e, hg, ⟨v, (hA j v hv).1⟩, (hA j v hv).2, ⟨?_, ?_, ?_, ?_, h.far⟩, set_turns (.inr (.inl hb)) (fun _ _ q => q)⟩
 · exact h.row.same (set_free (h.bn hb).symm)
 · have hn := h.nodes
   rw [e] at hn ⊢
   have := own_store (n := r.nodes.length) rnC_len hn hx hj he
   simpa using this
 · exact own_same h.ents (fun k hk => set_free (fun q => own_apart h.nodes h.ents K.ne hb (q ▸ hk)))
 · exact own_same h.fds (fun k hk => set_free (fun q => own_apart h.nodes h.fds K.nf hb (q ▸ hk)))
theorem DocAt.setF (K : Kinds3) (h : DocAt W Q r) {i j : Nat} {x x' : RF} {u : Value} (hx : r.fds[i]? = some x) (hj : j < 3) (he : rfC x' = (rfC x).set j u) :
  ∃ g cap, Q.vf = .slice (some ⟨g, 0, none⟩) r.fds.length cap ∧ g < W.heap.size ∧ (∃ v, W.cell? ⟨g, i * 3 + j, none⟩ = some v) ∧ W.frozen? ⟨g, i * 3 + j, none⟩ = false ∧ DocAt (W.setCell ⟨g, i * 3 + j, none⟩ u) Q { r with fds := r.fds.set i x' } ∧ Turns Q.O Q.O W (W.setCell ⟨g, i * 3 + j, none⟩ u) := by
 obtain ⟨g, cap, e, hg, hc, hA⟩ := own_el rfC_len h.fds hx
 obtain ⟨v, hv⟩ : ∃ v, (rfC x)[j]? = some v := ⟨_, List.getElem?_eq_getElem (by rw [rfC_len]; exact hj)⟩
 have hb : Q.vf.ownBlock = some g := by rw [e]; rfl
 refine ⟨g, cap, e, hg, ⟨v, (hA j v hv).1⟩, (hA j v hv).2, ⟨?_, ?_, ?_, ?_, h.far⟩, set_turns (.inr (.inr (.inr hb))) (fun _ _ q => q)⟩
 · exact h.row.same (set_free (h.bf hb).symm)
 · exact own_same h.nodes (fun k hk => set_free (fun q => own_apart h.nodes h.fds K.nf (q ▸ hk) hb))
 · exact own_same h.ents (fun k hk => set_free (fun q => own_apart h.ents h.fds K.ef (q ▸ hk) hb))
 · have hn := h.fds
   rw [e] at hn ⊢
   have := own_store (n := r.fds.length) rfC_len hn hx hj he
   simpa using this
theorem DocAt.setNext (h : DocAt W Q r) (z : Nat) : DocAt (W.setCell ⟨Q.b, 1, none⟩ (.int .i64 (z : Int))) Q { r with next := z } ∧ Turns Q.O Q.O W (W.setCell ⟨Q.b, 1, none⟩ (.int .i64 (z : Int))) := by
 refine ⟨⟨?_, own_same h.nodes (fun k hk => set_free (h.bn hk)), own_same h.ents (fun k hk => set_free (h.be hk)), own_same h.fds (fun k hk => set_free (h.bf hk)), h.far⟩, set_turns (.inl rfl) (fun _ _ q => q)⟩
 exact h.row.set 1 _
theorem DocAt.putN (K : Kinds3) (h : DocAt W Q r) {v : Value} {l : List RN} (ho : W'.ownsRow 0 93 4 v l.length (l.flatMap rnC)) (hg : W.grownBy W' Q.vn.ownBlock) (hat : v.ownBlock = Q.vn.ownBlock ∨ ∀ k, v.ownBlock = some k → W.heap.size ≤ k) :
  RowAt W' Q.b [.int .i64 (r.limit : Int), .int .i64 (r.next : Int), Q.vn, Q.ve, Q.vf] ∧ DocAt (W'.setCell ⟨Q.b, 2, none⟩ v) { Q with vn := v } { r with nodes := l } ∧ Turns Q.O ({ Q with vn := v } : Rr).O W (W'.setCell ⟨Q.b, 2, none⟩ v) := by
 have hrow := h.row.same (hg.block Q.b h.row.lt (fun e => h.bn e.symm rfl))
 have hfar : ∀ k, v.ownBlock = some k → k ≠ Q.b := fun k hk => by
  rcases hat with e | e
  · exact h.bn (e ▸ hk)
  · have h1 := e k hk; have h2 := h.row.lt; omega
 refine ⟨hrow, ⟨hrow.set 2 _, own_same ho (fun k hk => set_free (hfar k hk)), ?_, ?_, fun k hk => ?_⟩, ⟨hg.os, hg.tape, hg.output, by simpa [World.setCell] using hg.size, fun k hk hn => ?_, fun k hk q => ?_⟩⟩
 · exact own_same h.ents (fun k hk => (set_free (h.be hk)).trans (hg.block k (h.ents.lt k hk).2 (fun e => own_apart h.nodes h.ents K.ne e.symm hk)))
 · exact own_same h.fds (fun k hk => (set_free (h.bf hk)).trans (hg.block k (h.fds.lt k hk).2 (fun e => own_apart h.nodes h.fds K.nf e.symm hk)))
 · rcases hk with q | q | q
   · exact hfar k q
   · exact h.be q
   · exact h.bf q
 · exact (set_free (fun e => hn (.inl e))).trans (hg.block k hk (fun e => hn (.inr (.inl e.symm))))
 · rcases q with q | q | q | q
   · exact .inl q
   · rcases hat with e | e
     · exact .inr (.inl (e ▸ q))
     · have := e k q; omega
   · exact .inr (.inr (.inl q))
   · exact .inr (.inr (.inr q))
theorem DocAt.putE (K : Kinds3) (h : DocAt W Q r) {v : Value} {l : List RE} (ho : W'.ownsRow 0 148 3 v l.length (l.flatMap reC)) (hg : W.grownBy W' Q.ve.ownBlock) (hat : v.ownBlock = Q.ve.ownBlock ∨ ∀ k, v.ownBlock = some k → W.heap.size ≤ k) :
  RowAt W' Q.b [.int .i64 (r.limit : Int), .int .i64 (r.next : Int), Q.vn, Q.ve, Q.vf] ∧ DocAt (W'.setCell ⟨Q.b, 3, none⟩ v) { Q with ve := v } { r with ents := l } ∧ Turns Q.O ({ Q with ve := v } : Rr).O W (W'.setCell ⟨Q.b, 3, none⟩ v) := by
 have hrow := h.row.same (hg.block Q.b h.row.lt (fun e => h.be e.symm rfl))
 have hfar : ∀ k, v.ownBlock = some k → k ≠ Q.b := fun k hk => by
  rcases hat with e | e
  · exact h.be (e ▸ hk)
  · have h1 := e k hk; have h2 := h.row.lt; omega
 refine ⟨hrow, ⟨hrow.set 3 _, ?_, own_same ho (fun k hk => set_free (hfar k hk)), ?_, fun k hk => ?_⟩, ⟨hg.os, hg.tape, hg.output, by simpa [World.setCell] using hg.size, fun k hk hn => ?_, fun k hk q => ?_⟩⟩
 · exact own_same h.nodes (fun k hk => (set_free (h.bn hk)).trans (hg.block k (h.nodes.lt k hk).2 (fun e => own_apart h.nodes h.ents K.ne hk e.symm)))
 · exact own_same h.fds (fun k hk => (set_free (h.bf hk)).trans (hg.block k (h.fds.lt k hk).2 (fun e => own_apart h.ents h.fds K.ef e.symm hk)))
 · rcases hk with q | q | q
   · exact h.bn q
   · exact hfar k q
   · exact h.bf q
 · exact (set_free (fun e => hn (.inl e))).trans (hg.block k hk (fun e => hn (.inr (.inr (.inl e.symm)))))
 · rcases q with q | q | q | q
   · exact .inl q
   · exact .inr (.inl q)
   · rcases hat with e | e
     · exact .inr (.inr (.inl (e ▸ q)))
     · have := e k q; omega
   · exact .inr (.inr (.inr q))
theorem DocAt.putF (K : Kinds3) (h : DocAt W Q r) {v : Value} {l : List RF} (ho : W'.ownsRow 0 108 3 v l.length (l.flatMap rfC)) (hg : W.grownBy W' Q.vf.ownBlock) (hat : v.ownBlock = Q.vf.ownBlock ∨ ∀ k, v.ownBlock = some k → W.heap.size ≤ k) :
  RowAt W' Q.b [.int .i64 (r.limit : Int), .int .i64 (r.next : Int), Q.vn, Q.ve, Q.vf] ∧ DocAt (W'.setCell ⟨Q.b, 4, none⟩ v) { Q with vf := v } { r with fds := l } ∧ Turns Q.O ({ Q with vf := v } : Rr).O W (W'.setCell ⟨Q.b, 4, none⟩ v) := by
 have hrow := h.row.same (hg.block Q.b h.row.lt (fun e => h.bf e.symm rfl))
 have hfar : ∀ k, v.ownBlock = some k → k ≠ Q.b := fun k hk => by
  rcases hat with e | e
  · exact h.bf (e ▸ hk)
  · have h1 := e k hk; have h2 := h.row.lt; omega
 refine ⟨hrow, ⟨hrow.set 4 _, ?_, ?_, own_same ho (fun k hk => set_free (hfar k hk)), fun k hk => ?_⟩, ⟨hg.os, hg.tape, hg.output, by simpa [World.setCell] using hg.size, fun k hk hn => ?_, fun k hk q => ?_⟩⟩
 · exact own_same h.nodes (fun k hk => (set_free (h.bn hk)).trans (hg.block k (h.nodes.lt k hk).2 (fun e => own_apart h.nodes h.fds K.nf hk e.symm)))
 · exact own_same h.ents (fun k hk => (set_free (h.be hk)).trans (hg.block k (h.ents.lt k hk).2 (fun e => own_apart h.ents h.fds K.ef hk e.symm)))
 · rcases hk with q | q | q
   · exact h.bn q
   · exact h.be q
   · exact hfar k q
 · exact (set_free (fun e => hn (.inl e))).trans (hg.block k hk (fun e => hn (.inr (.inr (.inr e.symm)))))
 · rcases q with q | q | q | q
   · exact .inl q
   · exact .inr (.inl q)
   · exact .inr (.inr (.inl q))
   · rcases hat with e | e
     · exact .inr (.inr (.inr (e ▸ q)))
     · have := e k q; omega
end
def firstAt {α : Type} (p : α → Bool) (l : List α) : Int := match l.findIdx? p with
 | some i => (i : Int)
 | none => -1
theorem firstAt_none {α : Type} {p : α → Bool} {l : List α} (h : ∀ j < l.length, ∃ x, l[j]? = some x ∧ p x = false) : firstAt p l = -1 := by
 have : l.findIdx? p = none := by
  rw [List.findIdx?_eq_none_iff]
  intro x hx
  obtain ⟨j, hj, e⟩ := List.getElem_of_mem hx
  obtain ⟨y, h1, h2⟩ := h j hj
  rw [List.getElem?_eq_getElem hj, e] at h1
  injection h1 with h1
  rw [h1]; exact h2
 rw [firstAt, this]
theorem firstAt_some {α : Type} {p : α → Bool} {l : List α} {k : Nat} {x : α} (hx : l[k]? = some x) (he : p x = true) (h : ∀ j < k, ∃ x, l[j]? = some x ∧ p x = false) : firstAt p l = k := by
 have : l.findIdx? p = some k := by
  obtain ⟨hk, e⟩ := List.getElem?_eq_some_iff.1 hx
  rw [List.findIdx?_eq_some_iff_getElem]
  refine ⟨hk, by rw [e]; exact he, fun j hj => ?_⟩
  obtain ⟨y, h1, h2⟩ := h j hj
  rw [List.getElem?_eq_getElem (by omega)] at h1
  injection h1 with h1
  rw [h1]; simpa using h2
 rw [firstAt, this]
theorem first_find {α : Type} (p : α → Bool) (l : List α) : (firstAt p l = -1 ∧ l.find? p = none) ∨ ∃ (i : Nat) (x : α), firstAt p l = i ∧ l[i]? = some x ∧ p x = true ∧ l.find? p = some x ∧ ∀ j < i, ∃ y, l[j]? = some y ∧ p y = false := by
 cases h : l.findIdx? p with
 | none =>
  refine .inl ⟨by rw [firstAt, h], ?_⟩
  rw [List.findIdx?_eq_none_iff] at h
  rw [List.find?_eq_none]
  intro x hx
  rw [h x hx]; simp
 | some i =>
  have h' := h
  rw [List.findIdx?_eq_some_iff_getElem] at h'
  obtain ⟨hi, h1, h2⟩ := h'
  refine .inr ⟨i, l[i], by rw [firstAt, h], List.getElem?_eq_getElem hi, h1, ?_, fun j hj => ⟨l[j], List.getElem?_eq_getElem (by omega), by have := h2 j hj; simpa using this⟩⟩
  rw [List.find?_eq_some_iff_getElem]
  exact ⟨h1, i, hi, rfl, fun j hj => by have := h2 j hj; simpa using this⟩
theorem first_range {α : Type} (p : α → Bool) (l : List α) : -1 ≤ firstAt p l ∧ firstAt p l < l.length := by
 rcases first_find p l with ⟨e, _⟩ | ⟨i, x, e, h, _⟩
 · rw [e]; omega
 · have := (List.getElem?_eq_some_iff.1 h).1
   rw [e]; omega
end Go.Proofs.YtppdihpobokfnaaGreatDoor
