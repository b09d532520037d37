/- A part of a proof. -/
import Derived.Test.YtppdihpobokfnaaGreatDoorModW4
set_option linter.unusedVariables false
set_option linter.unusedSimpArgs false
set_option maxRecDepth 100000
namespace Go.Proofs.YtppdihpobokfnaaGreatDoor
open Go.RowKit Go.Joins
def callC (c : Cl) : List Value := [.int .i64 c.k, .string c.p, .string c.o, .int .i64 c.fd, .int .i64 c.n, .string c.d, .bool c.on]
def ansC (e n : Int) (d : ByteArray) (ns : Value) (k s l : Int) (p : Bool) (ls : Value) : List Value := [.int .i64 e, .int .i64 n, .string d, ns, .int .i64 k, .int .i64 s, .int .i64 l, .bool p, ls, .bool false]
abbrev nilS : Value := .slice none 0 0
abbrev zeroC : List Value := ansC 0 0 ⟨#[]⟩ nilS 0 0 0 false nilS
section
variable {W W' : World} {b : Nat}
theorem row10_cells {a0 a1 a2 a3 a4 a5 a6 a7 a8 a9 : Value} (h : RowAt W b [a0, a1, a2, a3, a4, a5, a6, a7, a8, a9]) : W.cell? ⟨b, 0, none⟩ = some a0 ∧ W.cell? ⟨b, 1, none⟩ = some a1 ∧ W.cell? ⟨b, 2, none⟩ = some a2 ∧ W.cell? ⟨b, 3, none⟩ = some a3 ∧ W.cell? ⟨b, 4, none⟩ = some a4 ∧ W.cell? ⟨b, 5, none⟩ = some a5 ∧ W.cell? ⟨b, 6, none⟩ = some a6 ∧ W.cell? ⟨b, 7, none⟩ = some a7 ∧ W.cell? ⟨b, 8, none⟩ = some a8 ∧ W.cell? ⟨b, 9, none⟩ = some a9 :=
 ⟨h.cell 0 (by simp), h.cell 1 (by simp), h.cell 2 (by simp), h.cell 3 (by simp), h.cell 4 (by simp), h.cell 5 (by simp), h.cell 6 (by simp), h.cell 7 (by simp), h.cell 8 (by simp), h.cell 9 (by simp)⟩
theorem row10_free {a0 a1 a2 a3 a4 a5 a6 a7 a8 a9 : Value} (h : RowAt W b [a0, a1, a2, a3, a4, a5, a6, a7, a8, a9]) : W.frozen? ⟨b, 0, none⟩ = false ∧ W.frozen? ⟨b, 1, none⟩ = false ∧ W.frozen? ⟨b, 2, none⟩ = false ∧ W.frozen? ⟨b, 3, none⟩ = false ∧ W.frozen? ⟨b, 4, none⟩ = false ∧ W.frozen? ⟨b, 5, none⟩ = false ∧ W.frozen? ⟨b, 6, none⟩ = false ∧ W.frozen? ⟨b, 7, none⟩ = false ∧ W.frozen? ⟨b, 8, none⟩ = false ∧ W.frozen? ⟨b, 9, none⟩ = false :=
 ⟨h.frozen 0 (by simp), h.frozen 1 (by simp), h.frozen 2 (by simp), h.frozen 3 (by simp), h.frozen 4 (by simp), h.frozen 5 (by simp), h.frozen 6 (by simp), h.frozen 7 (by simp), h.frozen 8 (by simp), h.frozen 9 (by simp)⟩
theorem row7_cells {c : Cl} (h : RowAt W b (callC c)) : W.cell? ⟨b, 0, none⟩ = some (.int .i64 c.k) ∧ W.cell? ⟨b, 1, none⟩ = some (.string c.p) ∧ W.cell? ⟨b, 2, none⟩ = some (.string c.o) ∧ W.cell? ⟨b, 3, none⟩ = some (.int .i64 c.fd) ∧ W.cell? ⟨b, 4, none⟩ = some (.int .i64 c.n) ∧ W.cell? ⟨b, 5, none⟩ = some (.string c.d) ∧ W.cell? ⟨b, 6, none⟩ = some (.bool c.on) :=
 ⟨h.cell 0 (by simp [callC]), h.cell 1 (by simp [callC]), h.cell 2 (by simp [callC]), h.cell 3 (by simp [callC]), h.cell 4 (by simp [callC]), h.cell 5 (by simp [callC]), h.cell 6 (by simp [callC])⟩
variable {w : World} {L : Nat → Option Lab} {R R' : Rp} {m m' : Md}
theorem Mid.drewN (h : Mid w L W R m) (n : Nat) : Mid w L (W.drewN n) R m := ⟨h.md.drewN n, h.ext, h.turn.os, h.turn.tape, h.turn.output, h.turn.size, h.turn.block⟩
theorem Mid.other (h : Mid w L W R m) (hn : R.L b = none) (hb : w.heap.size ≤ b) (i : Nat) (v : Value) : Mid w L (W.setCell ⟨b, i, none⟩ v) R m := by
 have hne : ∀ k, k ≠ b → (W.setCell ⟨b, i, none⟩ v).heap[k]? = W.heap[k]? := fun k hk => Below.heap_setCell _ _ _ _ hk
 refine ⟨h.md.same (by simp) (fun k hk => hne k (fun e => hk (by rw [e]; exact hn))), h.ext, h.turn.os, h.turn.tape, h.turn.output, by simpa using h.turn.size, fun k hk hl => ?_⟩
 rw [hne k (by omega)]
 exact h.turn.block k hk hl
theorem Mid.row {xs : List Value} (h : Mid W R.L W' R' m') (hr : RowAt W b xs) (hn : R.L b = none) : RowAt W' b xs ∧ R'.L b = none :=
 ⟨hr.same (h.turn.block b hr.lt hn), (h.ext b hr.lt).trans hn⟩
theorem MdAt.fresh (h : MdAt W R m) (hb : W.heap.size ≤ b) : R.L b = none := by
 cases hl : R.L b with
 | none => rfl
 | some x => have := h.lt_of hl; omega
variable {k : Nat} {d : Nd} {f : Nd → Nd}
theorem Mid.put (h : MdAt W R m) (hk : lookK m.nodes k = some d) (i : Nat) (v : Value) (hc : (nodeC R k d).set i v = nodeC R k (f d)) (hkind : (f d).kind = d.kind) (hdata : (f d).data = d.data) (hnames : (f d).names = d.names) : Mid W R.L (W.setCell ⟨R.g k, i, none⟩ v) R (m.set k f) :=
 ⟨h.put hk i v f hc hkind hdata hnames, Ext.refl _ _, rfl, rfl, rfl, by simp, fun b _ hl => Below.heap_setCell _ _ _ _ (fun e => by rw [e, (h.nodes k d hk).lab] at hl; cases hl)⟩
theorem Mid.named (h : MdAt W R m) (hk : lookK m.nodes k = some d) (hd : d.kind = 2) {n : Nat} {ns : List (Bs × Nat)} (hf : f d = { d with names := ns }) (ho : W'.ownsMap Tryz.prog 9 (plainElem Tryz.prog 3) (R.nb k) n (namD ns)) (hg : W.grownBy W' (some (R.nb k))) : Mid W R.L W' R (m.set k f) :=
 ⟨h.named hk hd f hf ho hg, Ext.refl _ _, Turn.grown hg (fun b hb => by cases hb; left; rw [((h.nodes k d hk).names hd).1]; simp)⟩
theorem Mid.over (h : MdAt W R m) (hk : lookK m.nodes k = some d) {bs : Bs} (hf : f d = { d with data := bs }) (ho : OwnB W' 5 (R.dv k) bs.length (bcells bs)) (hg : W.grownBy W' (R.dv k).ownBlock) : Mid W R.L W' R (m.set k f) :=
 ⟨h.over hk f hf ho hg, Ext.refl _ _, Turn.grown hg (fun b hb => by left; rw [(h.nodes k d hk).own b hb]; simp)⟩
theorem Mid.bytes (h : MdAt W R m) (hk : lookK m.nodes k = some d) {bs : Bs} {v : Value} (hf : f d = { d with data := bs }) (ho : OwnB W' 5 v bs.length (bcells bs)) (hg : W.grownBy W' (R.dv k).ownBlock)
  (hv : ∀ b, v.ownBlock = some b → (R.dv k).ownBlock = some b ∨ W.heap.size ≤ b ∧ b < W'.heap.size) : Mid W R.L (W'.setCell ⟨R.g k, 3, none⟩ v) (R.withD k v) (m.set k f) := by
 have hn := h.nodes k d hk
 refine ⟨h.bytes hk f hf ho hg (fun b hb => (hv b hb).imp id (fun ⟨h1, h2⟩ => ⟨h.fresh h1, h2⟩)), R.withD_ext k (fun b hb => (hv b hb).imp (fun h1 => by rw [hn.own b h1]; simp) (fun h1 => h1.1)), hg.os, hg.tape, hg.output, by simpa using hg.size, fun b hb hl => ?_⟩
 rw [Below.heap_setCell _ _ _ _ (fun e => by rw [e, hn.lab] at hl; cases hl)]
 exact hg.block b hb (fun e => by rw [hn.own b e.symm] at hl; cases hl)
theorem Mid.nexted (h : MdAt W R m) (n : Nat) : Mid W R.L (W.setCell ⟨R.mb, 3, none⟩ (.int .i64 (n : Int))) R { m with next := n } :=
 ⟨h.nexted n, Ext.refl _ _, rfl, rfl, rfl, by simp, fun b _ hl => Below.heap_setCell _ _ _ _ (fun e => by rw [e, h.lm] at hl; cases hl)⟩
theorem Mid.born {W0 : World} (h : MdAt W R m) (hb : Below W0.heap.size W0 W) (hids : ∀ p ∈ m.nodes, p.1 < k) {g : Nat} {nb : Option Nat} {x : Nd} (hx : x.data = [] ∧ x.names = []) (hL0 : ∀ b, W0.heap.size ≤ b → R.L b = none) (hg0 : W0.heap.size ≤ g) (hgz : g < W.heap.size) (hnb : ∀ b, nb = some b → W0.heap.size ≤ b ∧ b < W.heap.size ∧ b ≠ g)
  (hr : RowAt W g [.int .i64 x.kind, .int .i64 x.links, .bool x.pin, .slice none 0 0, .map nb, .int .i64 (x.par : Int)])
  (hkind : if x.kind = 2 then ∃ b, nb = some b ∧ W.ownsMap Tryz.prog 9 (plainElem Tryz.prog 3) b 0 (namD []) else nb = none)
  {n : Nat} (ho : W'.ownsMap Tryz.prog 3 heldV R.nm n ((layD R.lay).put (.int .i64 (k : Int)) (.held (ptrTo g)))) (hg : W.grownBy W' (some R.nm)) : Mid W0 R.L W' (R.more k g nb) { m with nodes := m.nodes ++ [(k, x)] } := by
 refine ⟨h.born (kind := 0) (dir := 0) hids hx (hL0 g hg0) hgz (fun b hb' => ⟨hL0 b (hnb b hb').1, (hnb b hb').2⟩) hr hkind ho hg, R.more_ext k g nb hg0 (fun b hb' => (hnb b hb').1), hg.os.trans hb.os, hg.tape.trans hb.tape, hg.output.trans hb.output, Nat.le_trans hb.size hg.size, fun b hbz hl => ?_⟩
 rw [hg.block b (Nat.lt_of_lt_of_le hbz hb.size) (fun e => by cases e; rw [h.ln] at hl; cases hl)]
 exact hb.block b hbz
def ListS (w : World) (R : Rp) (W : World) (v : Value) (xs : List Value) : Prop := (xs = [] ∧ v = nilS) ∨ ∃ g cap, v = .slice (some ⟨g, 0, none⟩) xs.length cap ∧ RowAt W g xs ∧ R.L g = none ∧ w.heap.size ≤ g
structure Fr (w : World) (L : Nat → Option Lab) (c : Cl) (W : World) (R : Rp) (m : Md) : Prop where
 mid : Mid w L W R m
 call : RowAt W w.heap.size (callC c)
 ans : RowAt W (w.heap.size + 1) zeroC
 na : R.L w.heap.size = none
 nz : R.L (w.heap.size + 1) = none
variable {c : Cl}
theorem Fr.start (h : MdAt w R m) (c : Cl) (t u : TypeId) : Fr w R.L c ((w.alloc (.cells #[.int .i64 c.k, .string c.p, .string c.o, .int .i64 c.fd, .int .i64 c.n, .string c.d, .bool c.on] t)).alloc (.cells #[.int .i64 0, .int .i64 0, .string ⟨#[]⟩, .slice none 0 0, .int .i64 0, .int .i64 0, .int .i64 0, .bool false, .slice none 0 0, .bool false] u)) R m := by
 have z := rowAt_alloc (w.alloc (.cells #[.int .i64 c.k, .string c.p, .string c.o, .int .i64 c.fd, .int .i64 c.n, .string c.d, .bool c.on] t)) #[.int .i64 0, .int .i64 0, .string ⟨#[]⟩, .slice none 0 0, .int .i64 0, .int .i64 0, .int .i64 0, .bool false, .slice none 0 0, .bool false] u
 rw [World.size_alloc] at z
 exact ⟨((Mid.start h).alloc _).alloc _, (rowAt_alloc w _ t).alloc _, z, h.fresh (Nat.le_refl _), h.fresh (by omega)⟩
theorem Fr.then (h : Fr w L c W R m) (h' : Mid W R.L W' R' m') : Fr w L c W' R' m' :=
 ⟨h.mid.then h', (h'.row h.call h.na).1, (h'.row h.ans h.nz).1, (h'.row h.call h.na).2, (h'.row h.ans h.nz).2⟩
theorem Fr.below (h : Fr w L c W R m) (hb : Below W.heap.size W W') : Fr w L c W' R m :=
 ⟨h.mid.below hb, h.call.below hb h.call.lt, h.ans.below hb h.ans.lt, h.na, h.nz⟩
theorem Fr.alloc (h : Fr w L c W R m) (o : Obj) : Fr w L c (W.alloc o) R m := h.below ((Below.refl _ _).alloc (Nat.le_refl _) o)
theorem Fr.drewN (h : Fr w L c W R m) (n : Nat) : Fr w L c (W.drewN n) R m := ⟨h.mid.drewN n, h.call.same rfl, h.ans.same rfl, h.na, h.nz⟩
theorem Fr.md (h : Fr w L c W R m) : MdAt W R m := h.mid.md
theorem Fr.size (h : Fr w L c W R m) : w.heap.size + 1 < W.heap.size := h.ans.lt
theorem Fr.drew (h : Fr w L c W R m) : Fr w L c W.drew R m := h.drewN 1
theorem Mid.tabbed (h : MdAt W R m) {T : List Sl} (ht : TabAt W' R.tb true T) (hg : W.grownBy W' (some R.tb)) : Mid W R.L W' R { m with tab := T } :=
 ⟨h.tabbed ht hg, Ext.refl _ _, Turn.grown hg (fun b hb => by cases hb; left; rw [h.lt]; simp)⟩
theorem Fr.tabbed (h : Fr w L c W R m) {T : List Sl} (ht : TabAt W' R.tb true T) (hg : W.grownBy W' (some R.tb)) : Fr w L c W' R { m with tab := T } := h.then (Mid.tabbed h.md ht hg)
theorem Fr.cellsT (h : Fr w L c W R m) : W.cell? ⟨R.mb, 4, none⟩ = some (.pointer (some ⟨R.tb, 0, none⟩)) ∧ W.cell? ⟨w.heap.size, 3, none⟩ = some (.int .i64 c.fd) := ⟨h.md.cells.2.2.2.2, (row7_cells h.call).2.2.2.1⟩
theorem Fr.cellsN (h : Fr w L c W R m) : W.cell? ⟨R.mb, 4, none⟩ = some (.pointer (some ⟨R.tb, 0, none⟩)) ∧ W.cell? ⟨w.heap.size, 3, none⟩ = some (.int .i64 c.fd) ∧ W.cell? ⟨w.heap.size, 4, none⟩ = some (.int .i64 c.n) := ⟨h.md.cells.2.2.2.2, (row7_cells h.call).2.2.2.1, (row7_cells h.call).2.2.2.2.1⟩
end
def OpR (w : World) (R : Rp) (r : An × Md) (e : Ending) (w' : World) : Prop :=
 e = .returned (.agg (ansC r.1.e r.1.n (tx r.1.d) nilS r.1.st.kind r.1.st.size r.1.st.links r.1.st.pin nilS).toArray) ∧ ∃ R', Mid w R.L w' R' r.2 ∧ R'.mb = R.mb
def OpG (w : World) (R : Rp) (r : An × Md) (e : Ending) (w' : World) : Prop :=
 ∃ ns ls, e = .returned (.agg (ansC r.1.e r.1.n (tx r.1.d) ns r.1.st.kind r.1.st.size r.1.st.links r.1.st.pin ls).toArray) ∧ ∃ R', Mid w R.L w' R' r.2 ∧ R'.mb = R.mb ∧ ListS w R' w' ns (strs (r.1.names.map tx)) ∧ ListS w R' w' ls (r.1.lens.map (Value.int .i64))
theorem OpR.all {w w' : World} {R : Rp} {r : An × Md} {e : Ending} (h : OpR w R r e w') (h1 : r.1.names = []) (h2 : r.1.lens = []) : OpG w R r e w' := by
 obtain ⟨he, R', hm, hb⟩ := h
 exact ⟨nilS, nilS, he, R', hm, hb, .inl ⟨by rw [h1]; rfl, rfl⟩, .inl ⟨by rw [h2]; rfl, rfl⟩⟩
theorem row10_all {W : World} {b : Nat} {a0 a1 a2 a3 a4 a5 a6 a7 a8 a9 : Value} (h : RowAt W b [a0, a1, a2, a3, a4, a5, a6, a7, a8, a9]) : W.cell? ⟨b, 0, none⟩ = some a0 ∧ W.cell? ⟨b, 1, none⟩ = some a1 ∧ W.cell? ⟨b, 2, none⟩ = some a2 ∧ W.cell? ⟨b, 3, none⟩ = some a3 ∧ W.cell? ⟨b, 4, none⟩ = some a4 ∧ W.cell? ⟨b, 5, none⟩ = some a5 ∧ W.cell? ⟨b, 6, none⟩ = some a6 ∧ W.cell? ⟨b, 7, none⟩ = some a7 ∧ W.cell? ⟨b, 8, none⟩ = some a8 ∧ W.cell? ⟨b, 9, none⟩ = some a9 ∧ W.frozen? ⟨b, 0, none⟩ = false ∧ W.frozen? ⟨b, 1, none⟩ = false ∧ W.frozen? ⟨b, 2, none⟩ = false ∧ W.frozen? ⟨b, 3, none⟩ = false ∧ W.frozen? ⟨b, 4, none⟩ = false ∧ W.frozen? ⟨b, 5, none⟩ = false ∧ W.frozen? ⟨b, 6, none⟩ = false ∧ W.frozen? ⟨b, 7, none⟩ = false ∧ W.frozen? ⟨b, 8, none⟩ = false ∧ W.frozen? ⟨b, 9, none⟩ = false := by
 obtain ⟨z0, z1, z2, z3, z4, z5, z6, z7, z8, z9⟩ := row10_cells h
 exact ⟨z0, z1, z2, z3, z4, z5, z6, z7, z8, z9, row10_free h⟩
theorem fin10 {fn : Func} {R : Ending → World → Prop} {a : Act} {W : World} {b s : Nat} {v0 v1 v2 v3 v4 v5 v6 v7 v8 v9 : Value} (hfn : fn.results = #[.cell s 33]) (ht : a.tmps.getD s undef = .pointer (some ⟨b, 0, none⟩)) (hd : a.defers = []) (h : RowAt W b zeroC)
  (hR : R (.returned (.agg #[v0, v1, v2, v3, v4, v5, v6, v7, v8, v9])) ((((((((((W.setCell ⟨b, 0, none⟩ v0).setCell ⟨b, 1, none⟩ v1).setCell ⟨b, 2, none⟩ v2).setCell ⟨b, 3, none⟩ v3).setCell ⟨b, 4, none⟩ v4).setCell ⟨b, 5, none⟩ v5).setCell ⟨b, 6, none⟩ v6).setCell ⟨b, 7, none⟩ v7).setCell ⟨b, 8, none⟩ v8).setCell ⟨b, 9, none⟩ v9)) :
  bodyPost Tryz.prog fn R .ret a ((((((((((W.setCell ⟨b, 0, none⟩ v0).setCell ⟨b, 1, none⟩ v1).setCell ⟨b, 2, none⟩ v2).setCell ⟨b, 3, none⟩ v3).setCell ⟨b, 4, none⟩ v4).setCell ⟨b, 5, none⟩ v5).setCell ⟨b, 6, none⟩ v6).setCell ⟨b, 7, none⟩ v7).setCell ⟨b, 8, none⟩ v8).setCell ⟨b, 9, none⟩ v9) := by
 refine bodyPost_ret ?_ hd hR
 obtain ⟨t0, t1, t2, t3, t4, t5, t6, t7, t8, t9⟩ := row10_cells (show RowAt _ _ [v0, v1, v2, v3, v4, v5, v6, v7, v8, v9] from ((((((((((h.set 0 v0).set 1 v1).set 2 v2).set 3 v3).set 4 v4).set 5 v5).set 6 v6).set 7 v7).set 8 v8).set 9 v9))
 have ht' : a.tmps[s]?.getD undef = .pointer (some ⟨b, 0, none⟩) := by simpa using ht
 simp [results, hfn, go_sem, ht', t0, t1, t2, t3, t4, t5, t6, t7, t8, t9]
end Go.Proofs.YtppdihpobokfnaaGreatDoor
set_option linter.unusedVariables false
set_option linter.unusedSimpArgs false
set_option maxRecDepth 100000
namespace Go.Proofs.YtppdihpobokfnaaGreatDoor
open Go.RowKit Go.Joins
def tGet (T : List Sl) (fd : Int) : Int × Int × Int := match slotOf T fd with
 | some s => (s.n, s.a, 0)
 | none => (0, 0, 220)
theorem hget_any (K : Nat) (l : List Sl) (fd : Int) (w : World) (h : TabAt w K true l) :
  Calls Tryz.prog 63 #[.pointer (some ⟨K, 0, none⟩), .int .i64 fd] w fun e w' => e = .returned (.tuple #[.int .i64 (tGet l fd).1, .int .i64 (tGet l fd).2.1, .int .i64 (tGet l fd).2.2]) ∧ Below w.heap.size w w' := by
 unfold tGet
 cases hs : slotOf l fd with
 | none =>
  refine (hget_bad K l fd w h hs).mono ?_
  rintro e w' ⟨rfl, rfl⟩
  exact ⟨rfl, Below.refl _ _⟩
 | some s => exact hget_ok K l fd s w h hs
set_option maxHeartbeats 2000000 in
theorem msame (R : Rp) (m : Md) (c : Cl) (w : World) (h : MdAt w R m) :
  Calls Tryz.prog 52 #[.pointer (some ⟨R.mb, 0, none⟩), .agg #[.int .i64 c.k, .string c.p, .string c.o, .int .i64 c.fd, .int .i64 c.n, .string c.d, .bool c.on]] w (OpR w R (sameP m c, m)) := by
 have HR := Lh (show sameP m c = failA (tGet m.tab c.fd).2.2 from by unfold sameP tGet; cases slotOf m.tab c.fd <;> rfl)
 have F0 := Fr.start h c 36 33
 go_enter Tryz.func52, Tryz.ntmps52
 go_upto_region 1 with fail
 generalize (w.alloc (.cells #[.int .i64 c.k, .string c.p, .string c.o, .int .i64 c.fd, .int .i64 c.n, .string c.d, .bool c.on] 36)).alloc (.cells #[.int .i64 0, .int .i64 0, .string ⟨#[]⟩, .slice none 0 0, .int .i64 0, .int .i64 0, .int .i64 0, .bool false, .slice none 0 0, .bool false] 33) = W1 at *
 have F1 := Lh F0
 clear F0
 obtain ⟨a0, a1, a2, a3, a4, a5, a6⟩ := row7_cells F1.out.call
 obtain ⟨m0, m1, m2, m3, m4⟩ := F1.out.md.cells
 go_region_held3 (fun W => W.cell? ⟨R.mb, 4, none⟩ = some (.pointer (some ⟨R.tb, 0, none⟩)) ∧ W.cell? ⟨w.heap.size, 3, none⟩ = some (.int .i64 c.fd)) (first | (exact F1.out.drew.cellsT) | (exact F2.out.cellsT) | assumption)
  (first | (go_at_call 63; refine (hget_any R.tb m.tab c.fd _ F1.out.drew.md.tab).mono ?_; rintro e W2 ⟨rfl, hb⟩; have F2 := Lh (F1.out.drew.below hb); clear hb))
 clear F1 a0 a1 a2 a3 a4 a5 a6 m0 m1 m2 m3 m4
 go_wp2_with fail
 refine (mfailed _ _).mono ?_
 rintro e W3 ⟨rfl, hb⟩
 have F3 := Lh (F2.out.below hb)
 clear hb F2
 obtain ⟨_, _, _, _, _, _, _, _, _, _, _, _, _, _, _, _, _, _, _, _⟩ := row10_all F3.out.ans
 unfold failV anV Stt.zero
 go_wp2_with fail
 refine fin10 Tryz.results52 rfl rfl F3.out.ans ?_
 · unfold OpR
   rw [HR.out]
   refine ⟨rfl, R, ?_, rfl⟩
   repeat (refine Mid.other ?_ F3.out.nz (by omega) _ _)
   exact F3.out.mid
end Go.Proofs.YtppdihpobokfnaaGreatDoor
set_option linter.unusedVariables false
set_option linter.unusedSimpArgs false
set_option maxRecDepth 100000
namespace Go.Proofs.YtppdihpobokfnaaGreatDoor
open Go.RowKit Go.Joins
def StepR (w : World) (R : Rp) (m' : Md) (e : Ending) (w' : World) : Prop := e = .returned (.tuple #[]) ∧ ∃ R', Mid w R.L w' R' m' ∧ R'.mb = R.mb
set_option maxHeartbeats 2000000 in
theorem mgone (R : Rp) (m : Md) (k : Nat) (d : Nd) (w : World) (h : MdAt w R m) (hk : lookK m.nodes k = some d) (hz : k ≤ 1000000) :
  Calls Tryz.prog 85 #[.pointer (some ⟨R.mb, 0, none⟩), .int .i64 (k : Int)] w (StepR w R (goneP m k)) := by
 have hl := h.look hk (by omega)
 obtain ⟨m0, m1, m2, m3, m4⟩ := h.cells
 obtain ⟨e0, e1, e2, e3, e4, e5⟩ := (h.nodes k d hk).cells
 have HH := Lh (hhas R.tb m.tab (k : Int) w h.tab)
 have HM := Lh h
 have hg := Md.get_look hk
 generalize R.g k = g at *
 by_cases h0 : d.links = 0
 · rw [h0] at e1
   cases ht : tHas m.tab (k : Int) with
   | true =>
    rw [ht] at HH
    have HR := Lh (show goneP m k = m from by rw [goneP, if_neg (by rw [ht]; simp)])
    clear h hg h0 hk ht
    go_enter Tryz.func85, Tryz.ntmps85
    go_wp2_with fail
    refine HH.out.mono ?_
    rintro e w1 ⟨rfl, hb⟩
    go_wp2_with fail
    go_end0
    exact ⟨rfl, R, by rw [HR.out]; exact (Mid.start HM.out).below hb, rfl⟩
   | false =>
    rw [ht] at HH
    have HR := Lh (show goneP m k = { m with nodes := m.nodes.filter fun p => !(p.1 == k) } from by rw [goneP, if_pos ⟨by rw [hg]; exact h0, ht⟩])
    have HK := Lh (key_nat (k := k) (by omega))
    clear h hg h0 hk ht
    go_enter Tryz.func85, Tryz.ntmps85
    go_wp2_with fail
    refine HH.out.mono ?_
    rintro e w1 ⟨rfl, hb⟩
    have H1 := Lh (HM.out.below hb (Nat.le_refl _))
    have HB := Lh hb
    clear hb m0 m1 m2 m3 m4 e0 e1 e2 e3 e4 e5 hl
    obtain ⟨m0, m1, m2, m3, m4⟩ := H1.out.cells
    go_wp2_with (at_delete; refine wpList_delete_own _ rfl _ _ 63 3 rfl 76 keyed_int Tryz.underlying63 heldV R.nm R.lay.length (layD R.lay) rfl H1.out.map _ _ rfl HK.out ?_; intro w2 hown2 hturn2)
    have HF := Lh (And.intro hown2 hturn2)
    clear hown2 hturn2
    go_wp2_with fail
    go_end0
    refine ⟨rfl, R.less k, ?_, rfl⟩
    rw [HR.out]
    refine ((Mid.start HM.out).below HB.out).then ⟨H1.out.gone HF.out.1 HF.out.2.grown, Ext.refl _ _, Turn.grown HF.out.2.grown (fun b hb => by cases hb; left; rw [H1.out.ln]; simp)⟩
 · have hb0 : (d.links == 0) = false := by rw [beq_eq_false_iff_ne]; exact h0
   have HR := Lh (show goneP m k = m from by rw [goneP, if_neg (by rw [hg]; exact fun h => h0 h.1)])
   clear h hg h0 hk HH
   go_enter Tryz.func85, Tryz.ntmps85
   go_wp2_with fail
   go_end0
   exact ⟨rfl, R, by rw [HR.out]; exact Mid.start HM.out, rfl⟩
def sttV (s : Stt) : Value := .agg #[.int .i64 s.kind, .int .i64 s.size, .int .i64 s.links, .bool s.pin]
theorem row4_cells {W : World} {b : Nat} {x y z u : Value} (h : RowAt W b [x, y, z, u]) : W.cell? ⟨b, 0, none⟩ = some x ∧ W.cell? ⟨b, 1, none⟩ = some y ∧ W.cell? ⟨b, 2, none⟩ = some z ∧ W.cell? ⟨b, 3, none⟩ = some u := ⟨h.cell 0 (by simp), h.cell 1 (by simp), h.cell 2 (by simp), h.cell 3 (by simp)⟩
set_option maxHeartbeats 2000000 in
theorem mtold (R : Rp) (m : Md) (k : Nat) (d : Nd) (w : World) (h : MdAt w R m) (hk : lookK m.nodes k = some d) (hd1 : d.data.length ≤ 262144) (hd2 : d.names.length ≤ 1000000) :
  Calls Tryz.prog 60 #[.pointer (some ⟨R.g k, 0, none⟩)] w fun e w' => e = .returned (sttV (toldP d)) ∧ Below w.heap.size w w' := by
 have hA := h.alloc (.cells #[.int .i64 0, .int .i64 0, .int .i64 0, .bool false] 30)
 have hn := hA.nodes k d hk
 obtain ⟨e0, e1, e2, e3, e4, e5⟩ := hn.cells
 have z0 := rowAt_alloc w #[.int .i64 0, .int .i64 0, .int .i64 0, .bool false] 30
 have hB : Below w.heap.size w (w.alloc (.cells #[.int .i64 0, .int .i64 0, .int .i64 0, .bool false] 30)) := by go_grown
 have hm := (hA.drew.nodes k d hk).many 3
 obtain ⟨a, cap, hdv⟩ := ownB_form hn.bytes
 have hg : R.g k ≠ w.heap.size := by have := h.lt_of (h.nodes k d hk).lab; omega
 rw [hdv] at e3
 generalize R.g k = g at *
 generalize (if d.kind = 2 then some (R.nb k) else none) = mo at *
 have HZ := Lh z0
 have HB := Lh hB
 clear h hA hn hk hdv z0 hB
 go_enter Tryz.func60, Tryz.ntmps60
 go_upto_region 1 with fail
 generalize w.alloc (.cells #[.int .i64 0, .int .i64 0, .int .i64 0, .bool false] 30) = W1 at *
 obtain ⟨t0, t1, t2, t3⟩ := row4_cells HZ.out
 have f0 := HZ.out.frozen 0 (by simp)
 have f1 := HZ.out.frozen 1 (by simp)
 have f2 := HZ.out.frozen 2 (by simp)
 have f3 := HZ.out.frozen 3 (by simp)
 go_still_tail 24, (by kernel_rfl)
 change wpList _ _ _ _ _ (World.drew _)
 have HZ2 := Lh HZ.out.drew
 have HB2 := Lh (show Below w.heap.size w W1.drew from HB.out.trans (below_draws _ _ 1))
 clear hm e0 e1 e2 e3 e4 e5 t0 t1 t2 t3 f0 f1 f2 f3
 generalize World.drew W1 = W2 at *
 obtain ⟨t0, t1, t2, t3⟩ := row4_cells HZ2.out
 have f0 := HZ2.out.frozen 0 (by simp)
 have f1 := HZ2.out.frozen 1 (by simp)
 have f2 := HZ2.out.frozen 2 (by simp)
 have f3 := HZ2.out.frozen 3 (by simp)
 have hsum : IntKind.i64.wrap ((d.data.length : Int) + (d.names.length : Int)) = (d.data.length : Int) + (d.names.length : Int) := IntWalk.i64_in _ (by omega)
 go_wp2_with fail
 refine bodyPost_ret (v := sttV (toldP d)) ?_ rfl ⟨rfl, ?_⟩
 · obtain ⟨q0, q1, q2, q3⟩ := row4_cells (show RowAt _ _ [.int .i64 d.kind, .int .i64 ((d.data.length : Int) + (d.names.length : Int)), .int .i64 d.links, .bool d.pin] from (((HZ2.out.set 0 (.int .i64 d.kind)).set 1 (.int .i64 ((d.data.length : Int) + (d.names.length : Int)))).set 2 (.int .i64 d.links)).set 3 (.bool d.pin))
   simp [results, Tryz.results60, go_sem, sttV, toldP, q0, q1, q2, q3]; done
 · have X := HB2.out
   go_grown
end Go.Proofs.YtppdihpobokfnaaGreatDoor
