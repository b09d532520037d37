/- A part of a proof. -/
import Derived.Test.YtppdihpobokfnaaGreatDoorGI
set_option linter.unusedVariables false
set_option linter.unusedSimpArgs false
set_option maxRecDepth 100000
namespace Go.Proofs.YtppdihpobokfnaaGreatDoor
open Go.RowKit Go.Joins Go.Maps
def numZ (ns : List Nat) (k : Nat) : Int := if ns.contains k then numOf ns k else 0
def itemOf (m : Md) (ns : List Nat) (x : Bs × Nat) : It := ⟨x.1, numZ ns x.2, toldP (m.get x.2), (m.get x.2).data⟩
theorem itC_len (x : It) : (itC x).length = 7 := rfl
theorem info_it : (Tryz.prog.info? 46).map (fun i => (i.zero, i.size, i.bytes)) = some (some (.agg #[.string ByteArray.empty, .int .i64 0, .int .i64 0, .int .i64 0, .int .i64 0, .bool false, .string ByteArray.empty]), 7, 72) := by kernel_rfl
theorem append_where {P : Program} (w : World) (base : Nat) (t ty e : TypeId) (i : TypeInfo) (z : Value) (size bytes : Nat) (ht : P.underlying t = some (.slice e)) (hi : P.info? e = some i) (hz : i.zero = some z)
  (hsize : i.size = size) (hby : i.bytes = bytes) (hzs : z.cells.size = size) (hsz : 0 < size)
  (v : Value) (n : Nat) (xs : List Value) (hown : w.ownsRow base e size v n xs)
  (a : Addr) (m c : Nat) (news : List Value) (hl : news.length = m * size) (hnews : ∀ j u, news[j]? = some u → w.cell? (a.add j) = some u) (h1 : ∀ u ∈ news, u.oneCell' = true)
  (h63 : n + m ≤ maxLen) (hbytes : (n + m) * bytes ≤ 140737488355328) {v' : Value} {w' : World} (hr : (Builtin.append_ #[t, t] ty #[v, .slice (some a) m c]).run P w = .ok v' w') :
  ∀ b, v'.ownBlock = some b → v.ownBlock = some b ∨ w.heap.size ≤ b := by
 intro b hb
 rcases hown.2 with ⟨rfl, rfl⟩ | ⟨g, cap, cur, rfl, hbg, hg, hnc, hcm, hcs, htake⟩
 · have hx : xs = [] := List.eq_nil_of_length_eq_zero (by simpa using hown.1)
   subst hx
   obtain ⟨v2, w2, h2, h3, _, _⟩ := run_append_own (P := P) w w.heap.size t ty e i z size bytes ht hi hz hsize hby hzs hsz (.slice none 0 0) 0 [] (World.ownsRow_nil w _ e size) a m c news hl hnews h1 h63 hbytes (Nat.le_refl _)
   rw [hr] at h2
   injection h2 with h2 _
   subst h2
   exact .inr (h3.lt b hb).1
 · by_cases hroom : n + m ≤ cap
   · have h2 := run_append_room (P := P) w t ty e i ht hi g n cap cur hg a m c news (by rw [hsize]; exact hl) hnews h1 hroom (by rw [hsize, hl, hcs, ← Nat.add_mul]; exact Nat.mul_le_mul_right _ hroom)
     rw [hr] at h2
     injection h2 with h2 _
     subst h2
     exact .inl hb
   · have holds : ∀ j u, xs[j]? = some u → w.cell? ((⟨g, 0, none⟩ : Addr).add j) = some u := hown.cells (g := g) rfl
     have h2 := run_append_grow (P := P) w t ty e i z ht hi hz ⟨g, 0, none⟩ n cap xs (by rw [hsize]; exact hown.1) holds a m c news (by rw [hsize]; exact hl) hnews (by omega) (by simp only [maxLen] at h63; omega) (by rw [hby]; exact growslice_fits (by omega) hbytes)
     rw [hr] at h2
     injection h2 with h2 _
     subst h2
     injection hb with hb
     exact .inr (by rw [← hb]; exact Nat.le_refl _)
theorem step_append_own2 {P : Program} {ops : Array Oper} {o : Oper} {a : Act} {w : World} {K : Act → World → Prop} {Q : Exit → Act → World → Prop} {E : Prop}
  (hg : o.guard = none) (s x : Operand) (t : TypeId) (hop : o.op = Op.call { callee := Callee.builtin Builtin.append, args := #[s, x], argTypes := #[t, t] })
  (base : Nat) (e : TypeId) (i : TypeInfo) (z : Value) (size bytes : Nat) (ht : P.underlying t = some (.slice e)) (hi : P.info? e = some i) (hz : i.zero = some z)
  (hsize : i.size = size) (hby : i.bytes = bytes) (hzs : z.cells.size = size) (hsz : 0 < size)
  (v : Value) (n : Nat) (xs : List Value) (hs : a.eval s = v) (hown : w.ownsRow base e size v n xs)
  (ad : Addr) (m c : Nat) (news : List Value) (hx : a.eval x = .slice (some ad) m c) (hl : news.length = m * size) (hnews : ∀ j u, news[j]? = some u → w.cell? (ad.add j) = some u) (h1 : ∀ u ∈ news, u.oneCell' = true)
  (h63 : n + m ≤ maxLen) (hbytes : (n + m) * bytes ≤ 140737488355328) (hbase : base ≤ w.heap.size)
  (hK : ∀ v' w', w'.ownsRow base e size v' (n + m) (xs ++ news) → w.grownBy w' v.ownBlock → (∀ b, v'.ownBlock = some b → v.ownBlock = some b ∨ w.heap.size ≤ b) → K (a.put o.dst v') w') :
  if Region.wanted o (yielded ops a.tmps) = true then Oper.wp P o a w K Q else E := by
 have hw : Region.wanted o (yielded ops a.tmps) = true := by simp [Region.wanted, hg]
 rw [if_pos hw]
 obtain ⟨v', w', hr, h2, h3, _⟩ := run_append_own (P := P) w base t o.type e i z size bytes ht hi hz hsize hby hzs hsz v n xs hown ad m c news hl hnews h1 h63 hbytes hbase
 have h4 := append_where w base t o.type e i z size bytes ht hi hz hsize hby hzs hsz v n xs hown ad m c news hl hnews h1 h63 hbytes hr
 unfold Oper.wp execOp
 simp only [hop, resolve, invoke, builtin, Sem.run_bind, Sem.run_pure, Result.andThen_ok, List.map_toArray, List.map_cons, List.map_nil, hs, hx, hr]
 exact hK v' w' h2 h3 h4
theorem own_text {W : World} {v : Value} {n : Nat} {d : Bs} (h : OwnB W 5 v n (bcells d)) : (convert 78 9 v).run Tryz.prog W = .ok (.string (tx d)) W := by
 have hdn : d.length = n := by have := h.1; rw [bcells_length] at this; exact this
 rcases h.2 with ⟨hv, h0⟩ | ⟨g, cap', cur, hv, hh, _, hm, hcs, ht⟩
 · subst hv
   have : d = [] := List.length_eq_zero_iff.1 (by omega)
   subst this
   exact run_convert_bytes_nil W 78 5 Tryz.underlying78 Tryz.underlying5 _ _ 9 Tryz.underlying9
 · subst hv
   rw [← str_nums]
   refine run_convert_bytes_arg W 78 5 Tryz.underlying78 Tryz.underlying5 g 0 n cap' (d.map fun b => (b.toNat : Int)) (by rw [List.length_map]; omega) (fun i hi2 => ?_) 9 Tryz.underlying9
   have hc : cur[i]? = some (.int .u8 ((d[i]'(by omega)).toNat : Int)) := by
    have h9 : (cur.toList.take n)[i]? = (bcells d)[i]? := by rw [ht]
    rw [List.getElem?_take_of_lt (by omega), Array.getElem?_toList] at h9
    rw [h9]
    simp [bcells, List.getElem?_eq_getElem (show i < d.length from by omega)]
   rw [World.cell?]
   simp [hh, hc, List.getElem?_eq_getElem (show i < d.length from by omega)]
section
variable {R : Rp} {m : Md}
structure VieS (R : Rp) (m : Md) (bm bo bn mb n base : Nat) (D : DataW Value) (ns : List Nat) (l : List (Bs × Nat)) (O : Nat → Prop) (W : World) : Prop where
 md : MdAt W R m
 vm : RowAt W bm [.pointer (some ⟨R.mb, 0, none⟩)]
 vn : RowAt W bn [.map (some mb)]
 map : W.ownsMap Tryz.prog 3 (plainElem Tryz.prog 3) mb n D
 out : ∃ a cap, RowAt W bo [.slice a l.length cap] ∧ W.ownsRow base 46 7 (.slice a l.length cap) l.length ((l.map (itemOf m ns)).flatMap itC) ∧ ∀ b, O b ↔ b = bo ∨ (Value.slice a l.length cap).ownBlock = some b
 lab : R.L bm = none ∧ R.L bo = none ∧ R.L bn = none ∧ R.L mb = none
 ord : bm < base ∧ bo < base ∧ bn < base ∧ mb < base ∧ bm ≠ bo ∧ bn ≠ bo ∧ mb ≠ bo ∧ ∀ b, R.L b ≠ none → b < base
 size : base ≤ W.heap.size
theorem num_lookZ {W : World} {mb n : Nat} {D : DataW Value} {ns : List Nat} (h : W.ownsMap Tryz.prog 3 (plainElem Tryz.prog 3) mb n D) (hD : NumD D ns) {k : Nat} (hk : k ≤ 1000000000) : (Instr.lookup 81 (.map (some mb)) (.int .i64 (k : Int)) false).run Tryz.prog W = .ok (.int .i64 (numZ ns k)) W := by
 cases hm : ns.contains k with
 | true => rw [num_look1 h hD hk hm]; unfold numZ; rw [hm]; rfl
 | false =>
  obtain ⟨v, ps, hrun, hv⟩ := h.lookup keyed_int Tryz.underlying81 (zero_int W) (plainElem_int (H := Value) Tryz.underlying3 (q := .i64) (a := 0) (by decide)) (key_n hk)
  obtain ⟨c, rfl, hc, _⟩ := plainElem_int_inv Tryz.underlying3 hv
  have hc := congrArg Prod.fst hc
  simp only [] at hc
  have hh := hD.2.2.1 k
  rw [hm] at hh
  rw [atKey_of_not_has hh] at hc
  injection hc with hc
  injection hc with _ hc
  rw [hrun, ← hc]
  unfold numZ
  rw [hm]
  rfl
theorem vie_facts {V : World} {bn mb n k : Nat} {D : DataW Value} {ns : List Nat} {d : Nd} (hm : MdAt V R m) (hn : RowAt V bn [.map (some mb)]) (hM : V.ownsMap Tryz.prog 3 (plainElem Tryz.prog 3) mb n D) (hD : NumD D ns) (hk : lookK m.nodes k = some d) (hkz : k ≤ 1000000) :
  V.cell? ⟨bn, 0, none⟩ = some (.map (some mb)) ∧ V.cell? ⟨R.g k, 3, none⟩ = some (R.dv k) ∧ (Instr.lookup 81 (.map (some mb)) (.int .i64 (k : Int)) false).run Tryz.prog V = .ok (.int .i64 (numZ ns k)) V ∧ (convert 78 9 (R.dv k)).run Tryz.prog V = .ok (.string (tx d.data)) V :=
 ⟨hn.cell 0 (by simp), (hm.nodes _ _ hk).cells.2.2.2.1, num_lookZ hM hD (by omega), own_text (hm.nodes _ _ hk).bytes⟩
theorem vie_end {bm bo bn mb n base : Nat} {D : DataW Value} {ns : List Nat} {l : List (Bs × Nat)} {O : Nat → Prop} {W w7 w9 : World} {p : ByteArray} {k : Nat} {d : Nd} {a a9 : Option Addr} {cap cap9 : Nat} {o : Obj}
  (hS : VieS R m bm bo bn mb n base D ns l O W) (hk : m.get k = d) (ho : RowAt W bo [.slice a l.length cap]) (hrow : W.ownsRow base 46 7 (.slice a l.length cap) l.length ((l.map (itemOf m ns)).flatMap itC)) (hO : ∀ b, O b ↔ b = bo ∨ (Value.slice a l.length cap).ownBlock = some b)
  (hb7 : Below W.drew.heap.size W.drew w7) (hM7 : MdAt w7 R m) (hX7 : RowAt w7 bo [.slice a l.length cap]) (hV7 : RowAt w7 bn [.map (some mb)]) (hN7 : w7.ownsMap Tryz.prog 3 (plainElem (H := Value) Tryz.prog 3) mb n D)
  (h9 : w9.ownsRow base 46 7 (.slice a9 (l.length + 1) cap9) (l.length + 1) ((l.map (itemOf m ns)).flatMap itC ++ [.string p, .int .i64 (numZ ns k), .int .i64 d.kind, .int .i64 ((d.data.length : Int) + (d.names.length : Int)), .int .i64 d.links, .bool d.pin, .string (tx d.data)]))
  (hg9 : (w7.alloc o).grownBy w9 (Value.slice a l.length cap).ownBlock) (hw9 : ∀ b, (Value.slice a9 (l.length + 1) cap9).ownBlock = some b → (Value.slice a l.length cap).ownBlock = some b ∨ (w7.alloc o).heap.size ≤ b) :
  VieS R m bm bo bn mb n base D ns (l ++ [(bts p, k)]) (fun b => b = bo ∨ (Value.slice a9 (l.length + 1) cap9).ownBlock = some b) (w9.setCell ⟨bo, 0, none⟩ (.slice a9 (l.length + 1) cap9)) ∧ Keep O (fun b => b = bo ∨ (Value.slice a9 (l.length + 1) cap9).ownBlock = some b) W (w9.setCell ⟨bo, 0, none⟩ (.slice a9 (l.length + 1) cap9)) := by
 have hd0 : W.drew.heap.size = W.heap.size := rfl
 have hz := hb7.size
 have hz9 := hg9.size
 rw [World.size_alloc] at hz9
 obtain ⟨r1, r2, r3, r4, r5, r6, r7, r8⟩ := hS.ord
 have hsz := hS.size
 have hne9 : ∀ b, b < base → (some b : Option Nat) ≠ (Value.slice a l.length cap).ownBlock := fun b hb e => by
  have := (World.ownsRow.lt hrow _ e.symm).1
  omega
 have hal : Below w7.heap.size w7 (w7.alloc o) := (Below.refl w7.heap.size w7).alloc (Nat.le_refl _) o
 have hbo : bo < W.heap.size := by omega
 have hvm : RowAt w7 bm [.pointer (some ⟨R.mb, 0, none⟩)] := hS.vm.drew.below hb7 (by have := hS.vm.lt; simpa using this)
 have hset : w9.grownBy (w9.setCell ⟨bo, 0, none⟩ (.slice a9 (l.length + 1) cap9)) (some bo) := grown_set (World.grownBy.refl _ _) 0 _
 refine ⟨⟨?_, ?_, ?_, ?_, ⟨a9, cap9, ?_, ?_, ?_⟩, hS.lab, hS.ord, ?_⟩, ⟨?_, ?_, ?_, ?_, ?_, ?_⟩⟩
 · exact ((hM7.alloc o).grown hg9 (fun b hb => Classical.byContradiction fun h => hne9 b (r8 b h) hb.symm)).same (by simp) (fun b hb => Below.heap_setCell _ _ _ _ (fun e => hb (by rw [e]; exact hS.lab.2.1)))
 · exact ((hvm.alloc o).grown hg9 (fun e => hne9 _ r1 e.symm)).other _ _ r5
 · exact ((hV7.alloc o).grown hg9 (fun e => hne9 _ r3 e.symm)).other _ _ r6
 · exact owns_same hN7 ((Below.heap_setCell _ _ _ _ r7).trans ((hg9.block _ (by rw [World.size_alloc]; omega) (hne9 _ r4)).trans (hal.block _ (by omega))))
 · have x9 := (hX7.alloc o).grown hg9 (fun e => hne9 _ r2 e.symm)
   have := x9.set 0 (.slice a9 (l.length + 1) cap9)
   simpa using this
 · have q := World.ownsRow.kept (row := some bo) h9 (grown_set (World.grownBy.refl _ _) 0 (.slice a9 (l.length + 1) cap9)) (.inr (fun e => by have := (World.ownsRow.lt h9 _ e).1; omega))
   have e1 : ((l ++ [(bts p, k)]).map (itemOf m ns)).flatMap itC = (l.map (itemOf m ns)).flatMap itC ++ [.string p, .int .i64 (numZ ns k), .int .i64 d.kind, .int .i64 ((d.data.length : Int) + (d.names.length : Int)), .int .i64 d.links, .bool d.pin, .string (tx d.data)] := by
    rw [List.map_append, List.flatMap_append]
    have htx : tx (bts p) = p := bts_ext (tx_bts (bts p))
    simp [itemOf, itC, toldP, hk, htx]
   rw [e1]
   simpa using q
 · intro b
   simp
 · have : (w9.setCell ⟨bo, 0, none⟩ (.slice a9 (l.length + 1) cap9)).heap.size = w9.heap.size := by simp
   omega
 · exact hset.os.trans (hg9.os.trans hb7.os)
 · exact hset.tape.trans (hg9.tape.trans hb7.tape)
 · exact hset.output.trans (hg9.output.trans hb7.output)
 · have : (w9.setCell ⟨bo, 0, none⟩ (.slice a9 (l.length + 1) cap9)).heap.size = w9.heap.size := by simp
   omega
 · intro b hb hob
   have n1 : b ≠ bo := fun e => hob ((hO b).2 (.inl e))
   have n2 : (some b : Option Nat) ≠ (Value.slice a l.length cap).ownBlock := fun e => hob ((hO b).2 (.inr e.symm))
   exact (Below.heap_setCell _ _ _ _ n1).trans ((hg9.block _ (by rw [World.size_alloc]; omega) n2).trans ((hal.block _ (by omega)).trans (hb7.block _ (by omega))))
 · intro b hb hob
   rcases hob with e | e
   · exact (hO b).2 (.inl e)
   · rcases hw9 b e with q | q
     · exact (hO b).2 (.inr q)
     · rw [World.size_alloc] at q; omega
def vieLoad : Go.Op := Go.Op.load 43 (Operand.tmp 3)
set_option maxHeartbeats 8000000 in
theorem vie_call {bm bo bn mb n base : Nat} {D : DataW Value} {ns : List Nat} {l : List (Bs × Nat)} {O : Nat → Prop} {W : World} (p : ByteArray) (k : Nat) (hS : VieS R m bm bo bn mb n base D ns l O W) (hG : Good m) (hD : NumD D ns) (hk : There m k) (hl : l.length ≤ 1000000) :
  Calls Tryz.prog 59 (#[.string p, .int .i64 (k : Int)] ++ #[.pointer (some ⟨bm, 0, none⟩), .pointer (some ⟨bo, 0, none⟩), .pointer (some ⟨bn, 0, none⟩)]) W fun e W' => e = .returned (.tuple #[]) ∧ ∃ O', VieS R m bm bo bn mb n base D ns (l ++ [(bts p, k)]) O' W' ∧ Keep O O' W W' := by
 obtain ⟨i0, hi, hz0, hz1, hz2⟩ := info_parts4 info_it
 have HIF := Lh (And.intro hi (And.intro hz0 (And.intro hz1 hz2)))
 obtain ⟨d, hd⟩ := hk
 have HS := Lh hS
 obtain ⟨a, cap, ho1, ho2, ho3⟩ := hS.out
 have HO := Lh (And.intro ho1 (And.intro ho2 ho3))
 have hkz := hG.small hd
 have HK := Lh (And.intro hd (And.intro (hG.data k d hd) (hG.nlen k d hd)))
 have x1 := hS.vm.cell 0 (by simp)
 have x2 := ho1.cell 0 (by simp)
 have x3 := hS.vn.cell 0 (by simp)
 simp only [List.getElem?_cons_zero] at x1 x2 x3
 obtain ⟨m0, m1, m2, m3, m4⟩ := hS.md.cells
 have hlk := hS.md.look hd (by omega)
 obtain ⟨e0, e1, e2, e3, e4, e5⟩ := (hS.md.nodes _ _ hd).cells
 have hnl := num_lookZ hS.map hD (k := k) (by omega)
 clear hi hz0 hz1 hz2 hS ho1 ho2 ho3 hd hG
 have HD := Lh hD
 have HT := Lh (fun W' (hW : MdAt W' R m) => mtold R m k d W' hW HK.out.1 HK.out.2.1 HK.out.2.2)
 have HF := Lh (fun V (hm : MdAt V R m) (hn : RowAt V bn [.map (some mb)]) (hM : V.ownsMap Tryz.prog 3 (plainElem (H := Value) Tryz.prog 3) mb n D) => vie_facts hm hn hM HD.out HK.out.1 (by omega))
 have hf1 := HF.out W.drew HS.out.md.drew HS.out.vn.drew (owns_same (w' := W.drew) HS.out.map rfl)
 clear m0 m1 m3 m4 e0 e1 e2 e3 e4 e5 hnl
 go_enter Tryz.func59, Tryz.ntmps59
 clear hD
 go_upto_region 1 with fail
 have y1 : W.drew.cell? ⟨bo, 0, none⟩ = some (.slice a l.length cap) := HO.out.1.drew.cell 0 (by simp)
 have HMD := Lh (HS.out.md.drew)
 have hd0 : W.drew.heap.size = W.heap.size := rfl
 have HBZ := HS.out.size
 clear hlk
 have hv : vieLoad = Go.Op.load 43 (Operand.tmp 3) := rfl
 rw [← hv]
 go_region_held3 (fun V => V.cell? ⟨bn, 0, none⟩ = some (.map (some mb)) ∧ V.cell? ⟨R.g k, 3, none⟩ = some (R.dv k) ∧ (Instr.lookup 81 (.map (some mb)) (.int .i64 (k : Int)) false).run Tryz.prog V = .ok (.int .i64 (numZ ns k)) V ∧ (convert 78 9 (R.dv k)).run Tryz.prog V = .ok (.string (tx d.data)) V) (first | (exact hf1) | (exact hf7) | (exact hf8 _) | (exact hf9) | (exact hf10 _) | assumption) (first
  | (refine step_append_own2 rfl (.tmp 14) (.tmp 27) 43 rfl base 46 i0 (.agg #[.string ByteArray.empty, .int .i64 0, .int .i64 0, .int .i64 0, .int .i64 0, .bool false, .string ByteArray.empty]) 7 72 Tryz.underlying43 HIF.out.1 HIF.out.2.1 HIF.out.2.2.1 HIF.out.2.2.2 rfl (by decide) (.slice a l.length cap) l.length ((l.map (itemOf m ns)).flatMap itC) (by simp [Act.eval, Act.put]) (by exact (HO7.out.alloc _)) ⟨w7.heap.size, 0, none⟩ 1 1 [.string p, .int .i64 (numZ ns k), .int .i64 d.kind, .int .i64 ((d.data.length : Int) + (d.names.length : Int)), .int .i64 d.links, .bool d.pin, .string (tx d.data)] (by simp [Act.eval, Act.put]) rfl (by exact row_news4 (rowAt_alloc w7 _ _)) (by intro u hu; simp at hu; rcases hu with rfl | rfl | rfl | rfl | rfl | rfl | rfl <;> rfl) (by unfold maxLen; omega) (by omega) (by have := HB7.out.size; rw [World.size_alloc]; omega) ?_; intro v' w9 hown9 hg9 hwh9; obtain ⟨a9, cap9, rfl⟩ := own_form hown9; (have hne9 : ∀ b, b < base → (some b : Option Nat) ≠ (Value.slice a l.length cap).ownBlock := fun b hb e => by have := (World.ownsRow.lt HO.out.2.1 _ e.symm).1; omega); (have hf9 := HF.out w9 ((HM7.out.alloc (.cells #[.string p, .int .i64 (numZ ns k), .int .i64 d.kind, .int .i64 ((d.data.length : Int) + (d.names.length : Int)), .int .i64 d.links, .bool d.pin, .string (tx d.data)] 46)).grown hg9 (fun b hb => Classical.byContradiction fun h => hne9 b (HS.out.ord.2.2.2.2.2.2.2 b h) hb.symm)) ((HV7.out.alloc (.cells #[.string p, .int .i64 (numZ ns k), .int .i64 d.kind, .int .i64 ((d.data.length : Int) + (d.names.length : Int)), .int .i64 d.links, .bool d.pin, .string (tx d.data)] 46)).grown hg9 (fun e => hne9 _ HS.out.ord.2.2.1 e.symm)) (owns_same HN7.out ((hg9.block _ (by have := HB7.out.size; have := HS.out.ord; rw [World.size_alloc]; omega) (hne9 _ HS.out.ord.2.2.2.1)).trans ((((Below.refl w7.heap.size w7).alloc (Nat.le_refl _) (.cells #[.string p, .int .i64 (numZ ns k), .int .i64 d.kind, .int .i64 ((d.data.length : Int) + (d.names.length : Int)), .int .i64 d.links, .bool d.pin, .string (tx d.data)] 46))).block _ (by have := HB7.out.size; have := HS.out.ord; omega))))); (have x9 := (HX7.out.alloc (.cells #[.string p, .int .i64 (numZ ns k), .int .i64 d.kind, .int .i64 ((d.data.length : Int) + (d.names.length : Int)), .int .i64 d.links, .bool d.pin, .string (tx d.data)] 46)).grown hg9 (fun e => hne9 _ HS.out.ord.2.1 e.symm)); have F9 := x9.frozen 0 (by simp); have C9 := x9.cell 0 (by simp); (have hf10 := fun v => HF.out (w9.setCell ⟨bo, 0, none⟩ v) (((HM7.out.alloc (.cells #[.string p, .int .i64 (numZ ns k), .int .i64 d.kind, .int .i64 ((d.data.length : Int) + (d.names.length : Int)), .int .i64 d.links, .bool d.pin, .string (tx d.data)] 46)).grown hg9 (fun b hb => Classical.byContradiction fun h => hne9 b (HS.out.ord.2.2.2.2.2.2.2 b h) hb.symm)).same (by simp) (fun b hb => Below.heap_setCell _ _ _ _ (fun e => hb (by rw [e]; exact HS.out.lab.2.1)))) (((HV7.out.alloc (.cells #[.string p, .int .i64 (numZ ns k), .int .i64 d.kind, .int .i64 ((d.data.length : Int) + (d.names.length : Int)), .int .i64 d.links, .bool d.pin, .string (tx d.data)] 46)).grown hg9 (fun e => hne9 _ HS.out.ord.2.2.1 e.symm)).other _ _ HS.out.ord.2.2.2.2.2.1) (owns_same HN7.out ((Below.heap_setCell _ _ _ _ HS.out.ord.2.2.2.2.2.2.1).trans ((hg9.block _ (by have := HB7.out.size; have := HS.out.ord; rw [World.size_alloc]; omega) (hne9 _ HS.out.ord.2.2.2.1)).trans ((((Below.refl w7.heap.size w7).alloc (Nat.le_refl _) (.cells #[.string p, .int .i64 (numZ ns k), .int .i64 d.kind, .int .i64 ((d.data.length : Int) + (d.names.length : Int)), .int .i64 d.links, .bool d.pin, .string (tx d.data)] 46))).block _ (by have := HB7.out.size; have := HS.out.ord; omega)))))); (have H9 := Lh (And.intro hown9 (And.intro hg9 hwh9))); clear hown9 hg9 hwh9)
  | (go_at_call 60; refine (HT.out _ HMD.out).mono ?_; rintro e w7 ⟨rfl, hb7⟩; have HB7 := Lh hb7; have HM7 := Lh (HMD.out.below hb7 (Nat.le_refl _)); have HX7 := Lh ((HO.out.1.drew).below hb7 (by have := HO.out.1.lt; simpa using this)); have HV7 := Lh ((HS.out.vn.drew).below hb7 (by have := HS.out.vn.lt; simpa using this)); have HN7 := Lh (owns_same HS.out.map (hb7.block _ (by have := HS.out.ord; have := HS.out.size; simp; omega))); have HO7 := Lh (HO.out.2.1.drew.kept (row := none) ⟨hb7.os, hb7.tape, hb7.output, hb7.size, fun j hj _ => hb7.block j hj⟩ (by cases (Value.slice a l.length cap).ownBlock <;> simp)); clear hb7; have z1 := HX7.out.cell 0 (by simp); have z8 := (HX7.out.alloc (.cells #[.string p, .int .i64 (numZ ns k), .int .i64 d.kind, .int .i64 ((d.data.length : Int) + (d.names.length : Int)), .int .i64 d.links, .bool d.pin, .string (tx d.data)] 46)).cell 0 (by simp); simp only [List.getElem?_cons_zero] at z1 z8; have hf7 := HF.out w7 HM7.out HV7.out HN7.out; have hf8 := fun o => HF.out (w7.alloc o) (HM7.out.alloc o) (HV7.out.alloc o) (owns_same HN7.out ((((Below.refl w7.heap.size w7).alloc (Nat.le_refl _) o)).block _ (by have := HB7.out.size; have := HS.out.ord; simp at this; omega))); unfold sttV toldP))
 all_goals
  go_end0
  exact ⟨rfl, _, vie_end HS.out (Md.get_look HK.out.1) HO.out.1 HO.out.2.1 HO.out.2.2 HB7.out HM7.out HX7.out HV7.out HN7.out H9.out.1 H9.out.2.1 H9.out.2.2⟩
end
end Go.Proofs.YtppdihpobokfnaaGreatDoor
set_option linter.unusedVariables false
set_option linter.unusedSimpArgs false
set_option maxRecDepth 100000
namespace Go.Proofs.YtppdihpobokfnaaGreatDoor
open Go.RowKit Go.Joins Go.Maps
theorem viewP_items (m : Md) : (allP m).map (itemOf m (numsOf ((allP m).map (·.2)))) = viewP m := by
 unfold viewP
 refine List.map_congr_left fun x hx => ?_
 unfold itemOf numZ
 have hm : x.2 ∈ numsOf ((allP m).map (·.2)) := mem_numsOf.2 (List.mem_map.2 ⟨x, hx, rfl⟩)
 rw [if_pos (by simpa using hm)]
section
variable {R : Rp} {m : Md}
theorem vie_hand {bm bo bn mb n base : Nat} {D : DataW Value} {ns : List Nat} (hG : Good m) (hD : NumD D ns) : Hand R m 59 #[.pointer (some ⟨bm, 0, none⟩), .pointer (some ⟨bo, 0, none⟩), .pointer (some ⟨bn, 0, none⟩)] (VieS R m bm bo bn mb n base D ns) 1000000 := by
 refine ⟨enters_of Tryz.func59 (by kernel_rfl) rfl, fun l O W h => h.md, fun l O W W' h hb => ?_, fun l O W b h ho => ?_, fun l O W p k h hl hp hk => vie_call p k h hG hD hk (by omega)⟩
 · obtain ⟨a, cap, h1, h2, h3⟩ := h.out
   have hz := h.size
   have ho := h.ord
   exact ⟨h.md.below hb (Nat.le_refl _), h.vm.below hb h.vm.lt, h.vn.below hb h.vn.lt, owns_same h.map (hb.block _ (by omega)), ⟨a, cap, h1.below hb h1.lt, World.ownsRow.kept (row := none) h2 ⟨hb.os, hb.tape, hb.output, hb.size, fun j hj _ => hb.block j hj⟩ (by cases (Value.slice a l.length cap).ownBlock <;> simp), h3⟩, h.lab, h.ord, Nat.le_trans h.size hb.size⟩
 · obtain ⟨a, cap, h1, h2, h3⟩ := h.out
   rcases (h3 b).1 ho with e | e
   · have := h.ord
     have := h.size
     omega
   · exact (World.ownsRow.lt h2 _ e).2
set_option maxHeartbeats 4000000 in
theorem mview {N : Nat} (w : World) (h : MdAt w R m) (hI : Inv N Nul m) (hN : N ≤ 20000) :
  Calls Tryz.prog 19 #[.pointer (some ⟨R.mb, 0, none⟩)] w fun e w' => ∃ v base, e = .returned v ∧ w'.ownsRow base 46 7 v (viewP m).length ((viewP m).flatMap itC) ∧ Below w.heap.size w w' ∧ w.heap.size ≤ base := by
 have HI := Lh hI
 have hmf : ∀ (fn : Fn) (first cap : Array Value) (w : World), (Instr.makeFunc fn first cap).run Tryz.prog w = .ok (.func fn first cap) w := fun _ _ _ _ => rfl
 have z0 := rowAt_alloc w #[.pointer (some ⟨R.mb, 0, none⟩)] 25
 have H0 := Lh (And.intro h (And.intro (h.alloc (.cells #[.pointer (some ⟨R.mb, 0, none⟩)] 25)) (And.intro z0 ((Below.refl w.heap.size w).alloc (Nat.le_refl _) (.cells #[.pointer (some ⟨R.mb, 0, none⟩)] 25)))))
 have HNN := Lh (fun W (hW : MdAt W R m) => mnone_row R.mb true W hW.cells.1)
 have HNU := Lh (fun W (hW : MdAt W R m) => mnumbers W hW HI.out hN)
 clear h hI z0
 go_enter Tryz.func19, Tryz.ntmps19
 go_upto_region 1 with fail
 have hbm : w.heap.size < (w.alloc (.cells #[.pointer (some ⟨R.mb, 0, none⟩)] 25)).heap.size := by rw [World.size_alloc]; omega
 have HL0 := Lh (And.intro (H0.out.1.fresh (Nat.le_refl _)) hbm)
 clear hbm
 generalize w.alloc (.cells #[.pointer (some ⟨R.mb, 0, none⟩)] 25) = W1 at *
 have x1 : W1.cell? ⟨w.heap.size, 0, none⟩ = some (.pointer (some ⟨R.mb, 0, none⟩)) := H0.out.2.2.1.cell 0 (by simp)
 go_wp2_with fail
 refine (HNN.out W1 H0.out.2.1).mono ?_
 rintro e W2 ⟨rfl, hw⟩
 subst hw
 go_upto_region 4 with fail
 have z1 := rowAt_alloc W1 #[.slice none 0 0] 43
 have H1 := Lh (And.intro (H0.out.2.1.alloc (.cells #[.slice none 0 0] 43)) (And.intro (H0.out.2.2.1.alloc (.cells #[.slice none 0 0] 43)) (And.intro z1 (H0.out.2.2.2.alloc H0.out.2.2.2.size (.cells #[.slice none 0 0] 43)))))
 have HL1 := Lh (And.intro (H0.out.2.1.fresh (Nat.le_refl _)) (show W1.heap.size < (W1.alloc (.cells #[.slice none 0 0] 43)).heap.size by rw [World.size_alloc]; omega))
 clear z1 x1 HNN
 obtain ⟨bo, hbo⟩ : ∃ bo, bo = W1.heap.size := ⟨_, rfl⟩
 rw [← hbo] at H1 HL1 HL0 ⊢
 clear hbo H0
 generalize W1.alloc (.cells #[.slice none 0 0] 43) = W3 at *
 have x1 : W3.cell? ⟨w.heap.size, 0, none⟩ = some (.pointer (some ⟨R.mb, 0, none⟩)) := H1.out.2.1.cell 0 (by simp)
 go_wp2_with fail
 refine (HNU.out W3 H1.out.1).mono ?_
 rintro e W4 ⟨mb, n, D, rfl, hM, hD, hB, hmb, hml⟩
 have z4 := rowAt_alloc W4 #[.map (some mb)] 81
 have hal := (Below.refl W4.heap.size W4).alloc (Nat.le_refl _) (.cells #[.map (some mb)] 81)
 have hsz : (W4.alloc (.cells #[.map (some mb)] 81)).heap.size = W4.heap.size + 1 := World.size_alloc ..
 have hM4 : MdAt W4 R m := H1.out.1.below hB (Nat.le_refl _)
 have hS : VieS R m w.heap.size bo W4.heap.size mb n (W4.alloc (.cells #[.map (some mb)] 81)).heap.size D (numsOf ((allP m).map (·.2))) [] (fun b => b = bo) (W4.alloc (.cells #[.map (some mb)] 81)) := by
  have q0 := HL0.out.2
  have q1 := HL1.out.2
  have q2 := hB.size
  exact ⟨hM4.alloc _, (H1.out.2.1.below hB H1.out.2.1.lt).alloc _, z4, owns_same hM (hal.block _ hml), ⟨none, 0, (H1.out.2.2.1.below hB H1.out.2.2.1.lt).alloc _, World.ownsRow_nil _ _ _ _, fun b => by simp [Value.ownBlock]⟩,
   ⟨HL0.out.1, HL1.out.1, hM4.fresh (Nat.le_refl _), H1.out.1.fresh hmb⟩, ⟨by omega, by omega, by omega, by omega, by omega, by omega, by omega, fun b hb => by have := hM4.old b hb; omega⟩, Nat.le_refl _⟩
 have B4 := (H1.out.2.2.2.trans (hB.mono H1.out.2.2.2.size)).alloc (Nat.le_trans H1.out.2.2.2.size hB.size) (.cells #[.map (some mb)] 81)
 have HS := Lh (And.intro hS (And.intro B4 hD))
 have q9 : w.heap.size < W4.heap.size ∧ bo < W4.heap.size ∧ w.heap.size ≤ bo := by
  have q0 := HL0.out.2
  have q1 := HL1.out.2
  have q2 := hB.size
  omega
 have HQ := Lh q9
 clear hM hD hB hmb hml z4 hal hM4 hS B4 x1 HNU q9
 go_upto_region 5 with fail
 obtain ⟨bn, hbn⟩ : ∃ bn, bn = W4.heap.size := ⟨_, rfl⟩
 rw [← hbn] at HS HQ ⊢
 clear hsz hbn
 generalize W4.alloc (.cells #[.map (some mb)] 81) = W5 at *
 have x1 : W5.cell? ⟨w.heap.size, 0, none⟩ = some (.pointer (some ⟨R.mb, 0, none⟩)) := HS.out.1.vm.cell 0 (by simp)
 go_wp2_with fail
 refine (mseen_all (vie_hand (HI.out.good (by omega)) HS.out.2.2) HI.out hN (by omega) _ _ HS.out.1).mono ?_
 rintro e W6 ⟨rfl, O6, hS6, hK6⟩
 obtain ⟨a, cap, ho1, ho2, _⟩ := hS6.out
 have x2 : W6.cell? ⟨bo, 0, none⟩ = some (.slice a (allP m).length cap) := ho1.cell 0 (by simp)
 have HE := Lh (And.intro ho2 hK6)
 clear hS6 ho1 ho2 hK6 x1
 go_wp2_with fail
 go_ret
 have hl : (viewP m).length = (allP m).length := by rw [← viewP_items, List.length_map]
 refine ⟨_, _, rfl, by rw [hl, ← viewP_items]; exact HE.out.1, ?_, HS.out.2.1.size⟩
 have hb := HS.out.2.1
 have hk := HE.out.2
 exact ⟨hk.os.trans hb.os, hk.tape.trans hb.tape, hk.output.trans hb.output, Nat.le_trans hb.size hk.size, fun b hlt => (hk.block b (Nat.lt_of_lt_of_le hlt hb.size) (by have := HQ.out; omega)).trans (hb.block b hlt)⟩
end
end Go.Proofs.YtppdihpobokfnaaGreatDoor
