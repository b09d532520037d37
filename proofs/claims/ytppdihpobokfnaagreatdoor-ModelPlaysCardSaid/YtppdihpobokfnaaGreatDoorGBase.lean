/- A part of a proof. -/
import Derived.WalkKit
import Derived.WalkSpells
import Derived.Lib.ConvBytes
import Derived.Laws.IdiomStrings
import Derived.Lib.Hide
import Derived.Lib.SmallJoins
import Derived.Lib.SplitLaws
import Derived.Lib.Split
import Derived.Lib.Join
import Derived.ProofKit
import Derived.OpenShut
import Derived.ShutString
import Derived.ChangeOld
import Derived.Below
import Derived.SizedLaws
import Derived.Laws.OwnMore
import Derived.OwnWalk
import Derived.Laws.AppendOwn
import Derived.Deep.RegionLaw
import Derived.Deep.Slices
import Derived.Deep.Fields
import Derived.ChangeSame
import Derived.Laws.RangeAny
import Derived.LaidMore
import Derived.LaidLaws
import Derived.Lay
import Derived.Handed
import Derived.Stop.Joined
namespace Go.Proofs.YtppdihpobokfnaaGreatDoor
open Go Go.RowKit
def RowAt (w : World) (b : Nat) (xs : List Value) : Prop :=
 ∃ C e lo hi, w.heap[b]? = some (.cells C e (lo, hi)) ∧ (∀ i, i < xs.length → C[i]? = xs[i]?) ∧ (∀ i, i < xs.length → ¬ (lo ≤ i ∧ i < hi))
section
variable {w w' : World} {b : Nat} {xs : List Value}
theorem RowAt.lt (h : RowAt w b xs) : b < w.heap.size := by
 obtain ⟨C, e, lo, hi, hb, _⟩ := h
 rcases Nat.lt_or_ge b w.heap.size with h | h
 · exact h
 · simp [Array.getElem?_eq_none h] at hb
theorem RowAt.cell (h : RowAt w b xs) (i : Nat) (hi : i < xs.length) : w.cell? ⟨b, i, none⟩ = xs[i]? := by
 obtain ⟨C, e, lo, hi', hb, hc, _⟩ := h
 simp [World.cell?, hb, hc i hi]
theorem RowAt.there (h : RowAt w b xs) (i : Nat) (hi : i < xs.length) : ∃ v, w.cell? ⟨b, i, none⟩ = some v :=
 ⟨_, (h.cell i hi).trans (List.getElem?_eq_getElem hi)⟩
theorem RowAt.frozen (h : RowAt w b xs) (i : Nat) (hi : i < xs.length) : w.frozen? ⟨b, i, none⟩ = false := by
 obtain ⟨C, e, lo, hi', hb, _, hz⟩ := h
 have := hz i hi
 simp only [World.frozen?, hb, Bool.and_eq_false_iff, decide_eq_false_iff_not]
 by_cases c : lo ≤ i
 · exact .inr (fun c' => this ⟨c, c'⟩)
 · exact .inl c
theorem RowAt.same (h : RowAt w b xs) (hs : w'.heap[b]? = w.heap[b]?) : RowAt w' b xs := by
 obtain ⟨C, e, lo, hi', hb, r⟩ := h
 exact ⟨C, e, lo, hi', by rw [hs]; exact hb, r⟩
theorem RowAt.below {B : Nat} (h : RowAt w b xs) (hb : Below B w w') (hl : b < B) : RowAt w' b xs := h.same (hb.block b hl)
theorem RowAt.drew (h : RowAt w b xs) : RowAt w.drew b xs := h
theorem RowAt.alloc (h : RowAt w b xs) (o : Obj) : RowAt (w.alloc o) b xs := h.same (Below.heap_alloc _ _ _ h.lt)
theorem RowAt.other (h : RowAt w b xs) (a : Addr) (v : Value) (hne : b ≠ a.block) : RowAt (w.setCell a v) b xs := h.same (Below.heap_setCell _ _ _ _ hne)
theorem RowAt.set (h : RowAt w b xs) (i : Nat) (v : Value) : RowAt (w.setCell ⟨b, i, none⟩ v) b (xs.set i v) := by
 obtain ⟨C, e, lo, hi', hb, hc, hz⟩ := h
 refine ⟨C.setIfInBounds i v, e, lo, hi', ?_, ?_, ?_⟩
 · simp only [World.setCell, Array.getElem?_modify, if_true, hb]
   rfl
 · intro j hj
   rw [List.length_set] at hj
   rw [List.getElem?_set, Array.getElem?_setIfInBounds]
   by_cases c : i = j
   · subst c
     have hC : i < C.size := by
      have := hc i hj
      rw [List.getElem?_eq_getElem hj] at this
      exact (Array.getElem?_eq_some_iff.1 this).1
     simp [hC, hj]
   · simp [c, hc j hj]
 · intro j hj
   rw [List.length_set] at hj
   exact hz j hj
theorem rowAt_alloc (w : World) (C : Array Value) (e : TypeId) : RowAt (w.alloc (.cells C e)) w.heap.size C.toList := by
 refine ⟨C, e, 0, 0, ?_, fun i _ => by simp, fun i _ => by omega⟩
 show (w.heap.push _)[w.heap.size]? = _
 simp
end
def bcells (l : List UInt8) : List Value := l.map fun b => .int .u8 (b.toNat : Int)
theorem bcells_length (l : List UInt8) : (bcells l).length = l.length := by simp [bcells]
theorem bcells_get (l : List UInt8) (i : Nat) : (bcells l)[i]? = (l[i]?).map fun b => .int .u8 (b.toNat : Int) := by simp [bcells]
abbrev bts (s : ByteArray) : List UInt8 := s.data.toList
theorem bts_length (s : ByteArray) : (bts s).length = s.size := by simp
section
variable {P : Program}
theorem conv_string (w : World) (src dst e : TypeId) (b n cap : Nat) (l : List UInt8) (hs : P.underlying src = some (.slice e)) (he : P.underlying e = some (.int .u8)) (hd : P.underlying dst = some .string)
  (h : RowAt w b (bcells l)) (hn : n = l.length) :
  (convert src dst (.slice (some ⟨b, 0, none⟩) n cap)).run P w = .ok (.string ⟨l.toArray⟩) w := by
 subst hn
 refine run_convert_bytes_back w src dst e ⟨b, 0, none⟩ cap l hs he hd (fun j hj => ?_)
 have e1 : (⟨b, 0, none⟩ : Addr).add j = ⟨b, j, none⟩ := by
  unfold Addr.add
  by_cases c : j = 0
  · subst c; rfl
  · simp [c]
 rw [e1, h.cell j (by rw [bcells_length]; exact hj), bcells_get, List.getElem?_eq_getElem hj]
 rfl
end
end Go.Proofs.YtppdihpobokfnaaGreatDoor
set_option linter.unusedVariables false
set_option linter.unusedSimpArgs false
namespace Go.Proofs.YtppdihpobokfnaaGreatDoor
open Go Go.RowKit
def nmOk (l : List UInt8) : Bool := decide (1 ≤ l.length) && (decide (l.length ≤ 32) && l.all fun b => b != 0 && b != 47)
theorem nmOk_iff {l : List UInt8} : nmOk l = true ↔ 1 ≤ l.length ∧ l.length ≤ 32 ∧ ∀ b ∈ l, b ≠ 0 ∧ b ≠ 47 := by
 simp [nmOk]
def pieces : List UInt8 → List (List UInt8)
 | [] => [[]]
 | c :: l => if c = 47 then [] :: pieces l else match pieces l with
  | [] => [[c]]
  | h :: t => (c :: h) :: t
theorem pieces_ne (l : List UInt8) : pieces l ≠ [] := by
 cases l with
 | nil => simp [pieces]
 | cons c l =>
  rw [pieces]
  split
  · simp
  · split <;> simp
def flat : List (List UInt8) → List UInt8
 | [] => []
 | x :: xs => 47 :: (x ++ flat xs)
theorem flat_append (a b : List (List UInt8)) : flat (a ++ b) = flat a ++ flat b := by
 induction a with
 | nil => rfl
 | cons x a ih => simp [flat, ih]
theorem pieces_flat : ∀ (xs : List (List UInt8)) (x : List UInt8), (∀ y ∈ x :: xs, (47 : UInt8) ∉ y) → pieces (x ++ flat xs) = x :: xs
 | [], [], _ => rfl
 | y :: ys, [], h => by
  rw [flat, List.nil_append, pieces, if_pos rfl, pieces_flat ys y (fun z hz => h z (List.mem_cons_of_mem _ hz))]
 | xs, c :: x, h => by
  have hc : c ≠ 47 := fun e => h (c :: x) (by simp) (by simp [e])
  rw [List.cons_append, pieces, if_neg hc, pieces_flat xs x]
  intro y hy
  rcases List.mem_cons.1 hy with rfl | hy
  · exact fun hm => h (c :: y) (by simp) (List.mem_cons_of_mem _ hm)
  · exact h y (List.mem_cons_of_mem _ hy)
theorem flat_pieces (r : List UInt8) : flat (pieces r) = 47 :: r := by
 induction r with
 | nil => rfl
 | cons c l ih =>
  rw [pieces]
  split
  · rename_i e
    rw [flat, ih, e]; rfl
  · split
    · rename_i e
      exact absurd e (pieces_ne l)
    · rename_i h t e
      rw [e, flat] at ih
      rw [flat, List.cons_append]
      injection ih with _ ih
      rw [ih]
def splitP (p : List UInt8) : List (List UInt8) × Int :=
 if 256 < p.length then ([], 3) else match p with
 | [] => ([], 130)
 | c :: r => if c = 47 then (if r = [] then ([], 0) else if (pieces r).all nmOk then (if 16 < (pieces r).length then ([], 3) else (pieces r, 0)) else ([], 130)) else ([], 130)
def pathS (xs : List (List UInt8)) : List UInt8 := if xs = [] then [47] else flat xs
def PathOk (xs : List (List UInt8)) : Prop := xs.all nmOk = true ∧ xs.length ≤ 16 ∧ (pathS xs).length ≤ 256
theorem splitP_long {p : List UInt8} (h : 256 < p.length) : splitP p = ([], 3) := by unfold splitP; rw [if_pos h]
theorem splitP_ok {p : List UInt8} {xs : List (List UInt8)} (h : splitP p = (xs, 0)) : PathOk xs ∧ p = pathS xs := by
 unfold splitP at h
 split at h
 · cases h
 · rename_i hl
   split at h
   · cases h
   · rename_i c r
     split at h
     · rename_i hc
       subst hc
       split at h
       · rename_i hr
         subst hr
         injection h with h _
         subst h
         exact ⟨⟨rfl, by simp, by simp [pathS]⟩, by simp [pathS]⟩
       · split at h
         · rename_i hall
           split at h
           · cases h
           · injection h with h _
             subst h
             have e : pathS (pieces r) = 47 :: r := by rw [pathS, if_neg (pieces_ne r), flat_pieces]
             exact ⟨⟨hall, by omega, by rw [e]; omega⟩, e.symm⟩
         · cases h
     · cases h
theorem splitP_err {p : List UInt8} (h : (splitP p).2 ≠ 0) : (splitP p).1 = [] ∧ ((splitP p).2 = 130 ∨ (splitP p).2 = 3) := by
 unfold splitP at h ⊢
 split
 · exact ⟨rfl, .inr rfl⟩
 · rename_i hl
   rw [if_neg hl] at h
   split
   · exact ⟨rfl, .inl rfl⟩
   · split
     · rename_i c r hc
       simp only [if_pos hc] at h
       split
       · rename_i hr
         rw [if_pos hr] at h
         exact absurd rfl h
       · rename_i hr
         rw [if_neg hr] at h
         split
         · rename_i ha
           rw [if_pos ha] at h
           split
           · exact ⟨rfl, .inr rfl⟩
           · rename_i h16
             rw [if_neg h16] at h
             exact absurd rfl h
         · exact ⟨rfl, .inl rfl⟩
     · exact ⟨rfl, .inl rfl⟩
theorem splitP_two (p : List UInt8) : splitP p = ((splitP p).1, 0) ∨ splitP p = ([], 130) ∨ splitP p = ([], 3) := by
 by_cases h : (splitP p).2 = 0
 · exact .inl (Prod.ext rfl h)
 · obtain ⟨h1, h2 | h2⟩ := splitP_err h
   · exact .inr (.inl (Prod.ext h1 h2))
   · exact .inr (.inr (Prod.ext h1 h2))
end Go.Proofs.YtppdihpobokfnaaGreatDoor
set_option linter.unusedVariables false
namespace Go.Proofs.YtppdihpobokfnaaGreatDoor
open Go Go.RowKit Go.ChangeShapes Go.WideShapes Go.ChangeAt
def Got (P : Program) (W : World) (t : TypeId) (v : Value) : Prop :=
 ∃ (base : Nat) (H : Type) (enc : TypeId × Value → H) (d : DataW H) (ps : List MemPlace),
  Value.okWide P W .any base t v ∧ DataW.Trod enc P W 0 (fun _ => true) true t v d ps ∧ ∀ x ∈ d.weights P t, x ≤ reachBytes
def GotAll (P : Program) (W : World) : List TypeId → List Value → Prop
 | [], [] => True
 | t :: ts, v :: vs => Got P W t v ∧ GotAll P W ts vs
 | _, _ => False
section
variable {P : Program} {W : World} {H : Type} {enc : TypeId × Value → H}
theorem gotAll_of {base : Nat} : ∀ (ts : List TypeId) (vs : List Value) (ds : List (DataW H)) (ps : List MemPlace),
  (∀ (j : Nat) t v, ts[j]? = some t → vs[j]? = some v → Value.okWide P W .any base t v) →
  DataW.TrodAll enc P W 0 (fun _ => true) true ts vs ds ps →
  (∀ x ∈ DataW.weightsEach P ts ds, x ≤ reachBytes) → GotAll P W ts vs
 | [], [], [], _, _, _, _ => trivial
 | t :: ts, v :: vs, d :: ds, ps, hv, ht, hw => by
  obtain ⟨p, q, h1, h2, rfl⟩ := ht
  simp only [DataW.weightsEach, List.mem_append] at hw
  exact ⟨⟨base, H, enc, d, p, hv 0 t v rfl rfl, h1, fun x hx => hw x (.inl hx)⟩,
   gotAll_of ts vs ds q (fun j t' v' h h' => hv (j + 1) t' v' (by simpa using h) (by simpa using h')) h2 (fun x hx => hw x (.inr hx))⟩
 | [], [], _ :: _, _, _, ht, _ => ht.elim
 | [], _ :: _, _, _, _, ht, _ => ht.elim
 | _ :: _, [], _, _, _, ht, _ => ht.elim
 | _ :: _, _ :: _, [], _, _, ht, _ => ht.elim
theorem trodAll_below (hl : laidOutB P = true) {W' : World} (hb : Below W.heap.size W W') :
  ∀ (ts : List TypeId) (vs : List Value) (ds : List (DataW H)) (ps : List MemPlace), (∀ t ∈ ts, P.readableRec t = true ∧ t < P.types.size) →
  DataW.TrodAll enc P W 0 (fun _ => true) true ts vs ds ps → DataW.TrodAll enc P W' 0 (fun b => decide (b < W.heap.size)) true ts vs ds ps
 | [], [], [], _, _, ht => ht
 | t :: ts, v :: vs, d :: ds, ps, hr, ht => by
  obtain ⟨p, q, h1, h2, rfl⟩ := ht
  have hlt : ∀ x ∈ p, x.block < W.heap.size := by obtain ⟨m, hm⟩ := h1; exact DataW.trod_lt m _ _ _ hm
  exact ⟨p, q, Below.trod hl (hr t (List.mem_cons_self ..)).1 (hr t (List.mem_cons_self ..)).2 h1 hb hlt, trodAll_below hl hb ts vs ds q (fun u hu => hr u (List.mem_cons_of_mem _ hu)) h2, rfl⟩
 | [], [], _ :: _, _, _, ht => ht.elim
 | [], _ :: _, _, _, _, ht => ht.elim
 | _ :: _, [], _, _, _, ht => ht.elim
 | _ :: _, _ :: _, [], _, _, ht => ht.elim
theorem trodAll_length : ∀ {w : World} {b : Nat} {sp : Nat → Bool} {hd : Bool} (ts : List TypeId) (vs : List Value) (ds : List (DataW H)) (ps : List MemPlace), DataW.TrodAll enc P w b sp hd ts vs ds ps → ds.length = ts.length
 | _, _, _, _, [], [], [], _, _ => rfl
 | _, _, _, _, t :: ts, v :: vs, d :: ds, ps, ht => by
  obtain ⟨p, q, h1, h2, rfl⟩ := ht
  simp [trodAll_length ts vs ds q h2]
 | _, _, _, _, [], [], _ :: _, _, ht => ht.elim
 | _, _, _, _, [], _ :: _, _, _, ht => ht.elim
 | _, _, _, _, _ :: _, [], _, _, ht => ht.elim
 | _, _, _, _, _ :: _, _ :: _, [], _, ht => ht.elim
end
theorem law_step {C : Checked} {os : Os} {f : FuncId} {fn : Func} {s : ChangeSpec} {H : Type} {enc : TypeId × Value → H} (own : ownKnob C.prog.godebug = none) (laid : laidOutB C.prog = true) (started : os.Started)
  (noInit : C.prog.inits.idxOf? f = none) (hfn : C.prog.funcs[f]? = some fn) {tb : TypeId} (hres : fn.resultTypes = #[tb]) (htb : C.prog.underlying tb = some .bool)
  (hvars : s.vars = []) (hfnv : ∀ ds : List (DataW H), ds.length = fn.params.size → s.fn H (ds ++ []) = { results := [.lit (.bool true)], args := ds })
  (hread : ∀ t ∈ fn.params.toList, C.prog.readableRec t = true ∧ t < C.prog.types.size)
  (witness : ∃ (w : World) (tape : Tape) (i : Input), w.os = os ∧ (w.forCall tape i).Shaped C.prog ∧ i.vars = [] ∧ Input.okWide C.prog (w.forCall tape i) .any w.heap.size f i ∧
    s.pre6 enc C.prog fn [] false (w.forCall tape i).memory i.args ∧ ({} : Assume).holds C.prog (lone (Frame.enter C.prog f i.args .normal) [] (w.forCall tape i)))
  (walk : ∀ (W : World) (args : Array Value), GotAll C.prog W fn.params.toList args.toList →
    Calls C.prog f args W fun e W' => e = .returned (.bool true) ∧ Below W.heap.size W W') :
  ReturnsInHanded {} C os f .any (s.pre6 enc C.prog fn [] false) (s.post enc C.prog fn false true false false) := by
 refine returnsInHanded_of_change_sized (C := C) own started noInit hfn witness ?_
 intro W base args ds gs before hval hW _ hsz _
 have hW' := hW
 obtain ⟨p, q, hA, hV, rfl, hfz, hnd⟩ := hW
 rw [hvars] at hV
 obtain ⟨rfl, rfl⟩ : gs = [] ∧ q = [] := by
  cases gs with
  | nil => exact ⟨rfl, hV⟩
  | cons g gs => exact hV.elim
 have hlen := trodAll_length _ _ _ _ hA
 have hvt : s.plain.varTypes C.prog = [] := by
  simp [DataSpec.varTypes, ChangeSpec.plain, hvars]
 have hw : ∀ x ∈ DataW.weightsEach C.prog fn.params.toList ds, x ≤ reachBytes := by
  rw [hvt] at hsz
  simp only [List.append_nil, List.all_eq_true, decide_eq_true_eq] at hsz
  exact hsz
 have hG : GotAll C.prog W fn.params.toList args.toList := gotAll_of (base := base) (enc := enc) _ _ ds p (fun j t v ht hv => hval j t v (by simpa using ht) (by simpa using hv)) hA hw
 refine (walk W args hG).mono fun e W' ⟨he, hb⟩ => ?_
 subst he
 have es := hfnv ds (by rw [hlen]; simp)
 refine ⟨_, rfl, ds, [], p ++ [], [], p, [], hW', ?_, ?_, ?_, hb.frame _, fun h => by cases h⟩
 · rw [es, hres]
   exact trodAll_mk1 (shut_bool htb _)
 · rw [es]
   exact trodAll_below laid hb _ _ _ _ hread hA
 · rw [es, hvars]
   rfl
section
variable {P : Program} {W : World} {t : TypeId} {v : Value}
theorem got_int {k : IntKind} (ht : P.underlying t = some (.int k)) (h : Got P W t v) : ∃ n, v = .int k n ∧ (Lit.int k n).wf = true := by
 obtain ⟨base, H, enc, d, ps, h1, h2, _⟩ := h
 obtain ⟨n, e, _, _, hw⟩ := open_int ht h1 h2
 exact ⟨n, e, hw⟩
theorem got_i64 (ht : P.underlying t = some (.int .i64)) (h : Got P W t v) : ∃ n, v = .int .i64 n ∧ -9223372036854775808 ≤ n ∧ n ≤ 9223372036854775807 := by
 obtain ⟨n, e, hw⟩ := got_int ht h
 have := bounds_i64 hw
 exact ⟨n, e, this.1, this.2⟩
def flatB (P : Program) (t : TypeId) (k : IntKind) (n : Nat) : Bool :=
 (match P.underlying t with | some (.struct _) => true | some (.array _ _) => true | _ => false) &&
 (match P.cellTypes P.depth t with | some ts => ts.length == n && ts.all (fun u => match P.underlying u with | some (.int k') => k' == k | _ => false) | none => false) && P.cellsOf t == n
theorem got_flat {k : IntKind} {n : Nat} (hB : flatB P t k n = true) (h : Got P W t v) :
  ∃ zs : List Int, v = .agg (zs.map (Value.int k)).toArray ∧ zs.length = n ∧ ∀ z ∈ zs, k.has z := by
 simp only [flatB, Bool.and_eq_true, beq_iff_eq] at hB
 obtain ⟨⟨hs, hT⟩, hc⟩ := hB
 obtain ⟨ts, hts, hn, hall⟩ : ∃ ts, P.cellTypes P.depth t = some ts ∧ ts.length = n ∧ ts.all (fun u => match P.underlying u with | some (.int k') => k' == k | _ => false) = true := by
  cases hq : P.cellTypes P.depth t with
  | none => rw [hq] at hT; simp at hT
  | some ts =>
   rw [hq] at hT
   simp only [Bool.and_eq_true, beq_iff_eq] at hT
   exact ⟨ts, rfl, hT.1, hT.2⟩
 obtain ⟨base, H, enc, d, ps, h1, _, _⟩ := h
 have hag : ∃ cs, v = .agg cs ∧ cs.size = P.cellsOf t ∧ Row.okWide P W .any base t cs := by
  cases hu : P.underlying t with
  | none => rw [hu] at hs; simp at hs
  | some d =>
   rw [hu] at hs
   simp only [Value.okWide, hu] at h1
   cases d <;> first | exact h1 | simp at hs
 obtain ⟨cs, rfl, hsz, ts', hts', _, hcell⟩ := hag
 rw [hts] at hts'
 obtain rfl : ts = ts' := by injection hts'
 have hk : ∀ i (hi : i < cs.size), ∃ z, cs[i] = .int k z ∧ k.has z := by
  intro i hi
  obtain ⟨u, hu, hok⟩ := hcell i cs[i] (by simp [hi])
  have hmem : u ∈ ts := List.mem_of_getElem? hu
  have := List.all_eq_true.1 hall u hmem
  cases hd : P.underlying u with
  | none => rw [hd] at this; simp at this
  | some d =>
   rw [hd] at this
   cases d <;> simp at this
   subst this
   simp only [Cell.okWide, hd] at hok
   generalize cs[i] = c at hok
   cases c <;> simp [Cell.ok, hd] at hok
   rename_i k' z
   exact ⟨z, by rw [hok.1], hok.2⟩
 refine ⟨cs.toList.map fun c => match c with | .int _ z => z | _ => 0, ?_, by simp [hsz, hc], ?_⟩
 · congr 1
   apply Array.ext
   · simp
   · intro i h1 h2
     obtain ⟨z, hz, _⟩ := hk i h1
     simp [hz]
 · intro z hz
   simp only [List.mem_map] at hz
   obtain ⟨c, hc', rfl⟩ := hz
   obtain ⟨i, hi, rfl⟩ := List.getElem_of_mem hc'
   obtain ⟨z, hz, hh⟩ := hk i (by simpa using hi)
   simp only [Array.getElem_toList, hz]
   exact hh
end
section
variable {P : Program} {W : World}
theorem gotAll_args2 {a b : TypeId} {args : Array Value} (h : GotAll P W [a, b] args.toList) : ∃ v0 v1, args = #[v0, v1] ∧ Got P W a v0 ∧ Got P W b v1 := by
 obtain ⟨l⟩ := args
 match l, h with
 | [v0, v1], h => exact ⟨v0, v1, rfl, h.1, h.2.1⟩
theorem gotAll_args3 {a b c : TypeId} {args : Array Value} (h : GotAll P W [a, b, c] args.toList) : ∃ v0 v1 v2, args = #[v0, v1, v2] ∧ Got P W a v0 ∧ Got P W b v1 ∧ Got P W c v2 := by
 obtain ⟨l⟩ := args
 match l, h with
 | [v0, v1, v2], h => exact ⟨v0, v1, v2, rfl, h.1, h.2.1, h.2.2.1⟩
end
end Go.Proofs.YtppdihpobokfnaaGreatDoor
set_option linter.unusedVariables false
namespace Go.Proofs.YtppdihpobokfnaaGreatDoor
open Go Go.RowKit Go.Joins
section
variable {w w1 : World} {C D : Array Value} {T U : TypeId} {v : Value}
end
theorem below_chain {B : Nat} {w a b : World} (h : Below B w a) (hb : Below a.heap.size a b) (hB : B ≤ a.heap.size) : Below B w b := h.trans (below_le hb hB)
end Go.Proofs.YtppdihpobokfnaaGreatDoor
set_option linter.unusedVariables false
namespace Go.Proofs.YtppdihpobokfnaaGreatDoor
open Go Go.RowKit
section
variable {w : World} {P : Program}
theorem rowAt_own {base : Nat} {e : TypeId} {size g n cap : Nat} {xs : List Value} (h : w.ownsRow base e size (.slice (some ⟨g, 0, none⟩) n cap) n xs) (hx : xs.length = n * size) (hlt : g < w.heap.size) : RowAt w g xs := by
 have hc := fun j (hj : j < xs.length) => h.cellAt j (by rw [← hx]; exact hj)
 have hz := fun j => h.frozenAt j
 cases hb : w.heap[g]? with
 | none => simp at hb; omega
 | some o =>
  cases o with
  | cells C e' fr =>
   obtain ⟨lo, hi⟩ := fr
   refine ⟨C, e', lo, hi, hb, fun i hi' => ?_, fun i hi' c => ?_⟩
   · have := hc i hi'
     simpa [World.cell?, hb] using this
   · have := hz i
     simp [World.frozen?, hb] at this
     omega
  | _ =>
   cases xs with
   | nil => exact absurd (h.2.elim (fun c => by simp at c) (fun ⟨_, _, _, hv, _, hh, _⟩ => by simp at hv; obtain ⟨rfl, _⟩ := hv; rw [hb] at hh; cases hh)) id
   | cons x r =>
    have := hc 0 (by simp)
    simp [World.cell?, hb] at this
theorem make_bytes (w : World) (t e : TypeId) (i : TypeInfo) (ht : P.underlying t = some (.slice e)) (hi : P.info? e = some i) (hz : i.zero = some (.int .u8 0)) (hs : i.size = 1) (hb : i.bytes = 1) (n : Nat) (hn : n ≤ 140737488355328) :
  ∃ W1, (Instr.makeSlice t (.int .i64 (n : Int)) (.int .i64 (n : Int))).run P w = .ok (.slice (some ⟨w.heap.size, 0, none⟩) n n) W1 ∧ Below w.heap.size w W1 ∧ RowAt W1 w.heap.size (bcells (List.replicate n 0)) := by
 obtain ⟨W1, h1, h2, h3⟩ := run_make_full (P := P) w w.heap.size t e i (.int .u8 0) 1 ht hi hz hs .i64 .i64 n (by rw [hb]; omega) (by unfold maxLen; omega) (Nat.le_refl _)
 refine ⟨W1, h1, ⟨h3.os, h3.tape, h3.output, h3.size, fun k hk => h3.block k hk (by simp)⟩, ?_⟩
 have e1 : (madeCells (Value.int .u8 0).cells (n * 1)).toList = bcells (List.replicate n 0) := by
  rw [Nat.mul_one]
  show (madeCells #[.int .u8 0] n).toList = _
  rw [toList_madeCells_one]
  simp [bcells]
 rw [e1] at h2
 refine rowAt_own h2 (by simp [bcells]) ?_
 have := World.ownsRow.lt h2 w.heap.size rfl
 exact this.2
end
end Go.Proofs.YtppdihpobokfnaaGreatDoor
set_option linter.unusedVariables false
namespace Go.Proofs.YtppdihpobokfnaaGreatDoor
open Go Go.RowKit
theorem step_append_own {P : Program} {ops : Array Oper} {o : Oper} {a : Act} {w : World} {K : Act → World → Prop} {Q : Exit → Act → World → Prop} {E : Prop}
  (hg : o.guard = none) (s x : Operand) (t : TypeId) (hop : o.op = Op.call { callee := Callee.builtin Builtin.append, args := #[s, x], argTypes := #[t, t] })
  (base : Nat) (e : TypeId) (i : TypeInfo) (z : Value) (size bytes : Nat) (ht : P.underlying t = some (.slice e)) (hi : P.info? e = some i) (hz : i.zero = some z)
  (hsize : i.size = size) (hby : i.bytes = bytes) (hzs : z.cells.size = size) (hsz : 0 < size)
  (v : Value) (n : Nat) (xs : List Value) (hs : a.eval s = v) (hown : w.ownsRow base e size v n xs)
  (ad : Addr) (m c : Nat) (news : List Value) (hx : a.eval x = .slice (some ad) m c) (hl : news.length = m * size) (hnews : ∀ j u, news[j]? = some u → w.cell? (ad.add j) = some u) (h1 : ∀ u ∈ news, u.oneCell' = true)
  (h63 : n + m ≤ maxLen) (hbytes : (n + m) * bytes ≤ 140737488355328) (hbase : base ≤ w.heap.size)
  (hK : ∀ v' w', w'.ownsRow base e size v' (n + m) (xs ++ news) → w.grownBy w' v.ownBlock → K (a.put o.dst v') w') :
  if Region.wanted o (yielded ops a.tmps) = true then Oper.wp P o a w K Q else E := by
 have hw : Region.wanted o (yielded ops a.tmps) = true := by simp [Region.wanted, hg]
 rw [if_pos hw]
 exact wp_append_own w s x t hop base e i z size bytes ht hi hz hsize hby hzs hsz v n xs hs hown ad m c news hx hl hnews h1 h63 hbytes hbase fun v' w' h2 h3 _ => hK v' w' h2 h3
theorem own_form {w : World} {base : Nat} {e : TypeId} {size : Nat} {v : Value} {n : Nat} {xs : List Value} (h : w.ownsRow base e size v n xs) : ∃ a cap, v = .slice a n cap := by
 rcases h.2 with ⟨rfl, rfl⟩ | ⟨g, cap, cur, rfl, _⟩
 · exact ⟨none, 0, rfl⟩
 · exact ⟨_, cap, rfl⟩
theorem RowAt.grown {w w' : World} {b : Nat} {xs : List Value} {row : Option Nat} (h : RowAt w b xs) (hg : w.grownBy w' row) (hr : row ≠ some b) : RowAt w' b xs :=
 h.same (hg.block b h.lt (fun e => hr e.symm))
end Go.Proofs.YtppdihpobokfnaaGreatDoor
set_option linter.unusedVariables false
set_option linter.unusedSimpArgs false
namespace Go.Proofs.YtppdihpobokfnaaGreatDoor
open Go Go.RowKit Go.Joins Go.ChangeShapes Go.WideShapes Go.Deep
def ValAt (w : World) (B o : Nat) (vs : List Value) : Prop := B < w.heap.size ∧ ∀ i u, vs[i]? = some u → w.cell? ⟨B, o + i, none⟩ = some u
def ValS (w : World) (a : Option Addr) (vs : List Value) : Prop := vs = [] ∨ ∃ B o, a = some ⟨B, o, none⟩ ∧ ValAt w B o vs
section
variable {w w' : World} {a : Option Addr} {vs : List Value} {B o : Nat}
theorem ValAt.below {K : Nat} (h : ValAt w B o vs) (hb : Below K w w') (hK : B < K) : ValAt w' B o vs := by
 have hs : w'.heap[B]? = w.heap[B]? := hb.block B hK
 refine ⟨by have := h.1; have := hb.size; omega, fun i u hu => ?_⟩
 have := h.2 i u hu
 unfold World.cell? at *
 simp only [hs]
 exact this
theorem ValS.below {K : Nat} (h : ValS w a vs) (hb : Below K w w') (hK : w.heap.size ≤ K) : ValS w' a vs := by
 rcases h with rfl | ⟨B, o, rfl, h⟩
 · exact .inl rfl
 · exact .inr ⟨B, o, rfl, h.below hb (by have := h.1; omega)⟩
theorem valAt_row {g : Nat} (h : RowAt w g vs) : ValAt w g 0 vs := by
 refine ⟨h.lt, fun i u hu => ?_⟩
 have hl : i < vs.length := (List.getElem?_eq_some_iff.1 hu).1
 rw [Nat.zero_add, h.cell i hl, hu]
def NewS (w : World) (base : Nat) (a : Option Addr) (vs : List Value) : Prop := vs = [] ∨ ∃ g, a = some ⟨g, 0, none⟩ ∧ base ≤ g ∧ RowAt w g vs
theorem NewS.vals {base : Nat} (h : NewS w base a vs) : ValS w a vs := by
 rcases h with rfl | ⟨g, rfl, _, hr⟩
 · exact .inl rfl
 · exact .inr ⟨g, 0, rfl, valAt_row hr⟩
theorem own_news {base : Nat} {e : TypeId} {v : Value} {n : Nat} (h : w.ownsRow base e 1 v n vs) : ∃ a cap, v = .slice a n cap ∧ NewS w base a vs ∧ n = vs.length := by
 have hl : n = vs.length := by have := h.1; omega
 rcases h.2 with ⟨rfl, h0⟩ | ⟨g, cap, cur, rfl, hg, _⟩
 · refine ⟨none, 0, by rw [h0], .inl ?_, hl⟩
   exact List.length_eq_zero_iff.1 (by omega)
 · exact ⟨_, cap, rfl, .inr ⟨g, rfl, hg, rowAt_own h h.1 (h.lt g rfl).2⟩, hl⟩
end
theorem addr_add (b o i : Nat) : (⟨b, o, none⟩ : Addr).add i = ⟨b, o + i, none⟩ := by
 unfold Addr.add
 by_cases c : i = 0
 · subst c; rfl
 · simp [c]
end Go.Proofs.YtppdihpobokfnaaGreatDoor
set_option linter.unusedVariables false
set_option linter.unusedSimpArgs false
namespace Go.Proofs.YtppdihpobokfnaaGreatDoor
open Go Go.RowKit
theorem grown_below4 {w0 w w' : World} {row : Option Nat} {base : Nat} (h : Below base w0 w) (hg : w.grownBy w' row) (hr : ∀ k, row = some k → base ≤ k) (hB : base ≤ w.heap.size) : Below base w0 w' :=
 h.trans ⟨hg.os, hg.tape, hg.output, hg.size, fun k hk => hg.block k (by omega) (fun e => by have := hr k e.symm; omega)⟩
theorem row_news4 {w : World} {g : Nat} {xs : List Value} (h : RowAt w g xs) : ∀ j u, xs[j]? = some u → w.cell? ((⟨g, 0, none⟩ : Addr).add j) = some u := by
 intro j u hj
 have hl : j < xs.length := by
  rcases Nat.lt_or_ge j xs.length with c | c
  · exact c
  · rw [List.getElem?_eq_none c] at hj; cases hj
 rw [addr_add, Nat.zero_add, h.cell j hl, hj]
end Go.Proofs.YtppdihpobokfnaaGreatDoor
set_option linter.unusedVariables false
set_option linter.unusedSimpArgs false
set_option maxRecDepth 100000
namespace Go.Proofs.YtppdihpobokfnaaGreatDoor
open Go.RowKit Go.Joins Go.ChangeShapes Go.WideShapes Go.Deep
theorem Lh {p : Prop} (h : p) : RowKit.Hid p := h
def i64B (z : Int) : Prop := -9223372036854775808 ≤ z ∧ z ≤ 9223372036854775807
section
variable {H : Type} {enc : TypeId × Value → H} {P : Program} {w : World} {base : Nat} {spare : Nat → Bool} {held : Bool}
theorem trod_i64 {t : TypeId} {fuel : Nat} {v : Value} {x : DataW H × List MemPlace} (ht : P.underlying t = some (.int .i64)) (h : DataW.trod enc P w base spare held fuel t [v] = some x) : ∃ n, v = .int .i64 n ∧ i64B n := by
 obtain ⟨n, e, _, hw⟩ := DataW.trod_int ht h
 have := bounds_i64 hw
 exact ⟨n, by simpa using e, this.1, this.2⟩
theorem trod_boolv {t : TypeId} {fuel : Nat} {v : Value} {x : DataW H × List MemPlace} (ht : P.underlying t = some .bool) (h : DataW.trod enc P w base spare held fuel t [v] = some x) : ∃ b, v = .bool b := by
 obtain ⟨b, e, _⟩ := DataW.trod_bool ht h
 exact ⟨b, by simpa using e⟩
theorem spot_of_cell {w : World} {a : Addr} {v : Value} (h : w.cell? a = some v) : a = ⟨a.block, a.off, none⟩ ∧ a.block < w.heap.size := by
 obtain ⟨b, o, sp⟩ := a
 unfold World.cell? at h
 have hl : b < w.heap.size := by
  rcases Nat.lt_or_ge b w.heap.size with h' | h'
  · exact h'
  · simp [Array.getElem?_eq_none h'] at h
 refine ⟨?_, hl⟩
 cases sp with
 | none => rfl
 | some s =>
  cases hh : w.heap[b]? with
  | none => simp [hh] at h
  | some o' => cases o' <;> simp [hh] at h
end
end Go.Proofs.YtppdihpobokfnaaGreatDoor
set_option linter.unusedVariables false
set_option linter.unusedSimpArgs false
namespace Go.Proofs.YtppdihpobokfnaaGreatDoor
open Go Go.RowKit
theorem next_any {P : Program} (W : World) (k : Nat) (s : ByteArray) (pos : Nat) (h : W.heap[k]? = some (.stringIter s pos)) (hp : pos < s.size) :
  ∃ W', (∀ ty, (Instr.next (.pointer (some ⟨k, 0, none⟩)) true ty).run P W = .ok (.tuple #[.bool true, .int .i64 pos, .int .i32 (Utf8.decode s pos).1]) W') ∧ W'.heap[k]? = some (.stringIter s (pos + (Utf8.decode s pos).2)) ∧ Below k W W' := by
 refine ⟨{ W with heap := W.heap.setIfInBounds k (.stringIter s (pos + (Utf8.decode s pos).2)) }, fun ty => ?_, ?_, ⟨rfl, rfl, rfl, by simp, fun j hj => ?_⟩⟩
 · simp only [Instr.next, getObj, setObj, Sem.run_bind, Sem.run, h, Result.andThen, hp, if_true]
   simp [goInt, Sem.run, h]
 · have hk : k < W.heap.size := (Array.getElem?_eq_some_iff.1 h).1
   simp [hk]
 · simp only
   rw [Array.getElem?_setIfInBounds_ne (by omega)]
theorem next_end {P : Program} (W : World) (k : Nat) (s : ByteArray) (pos : Nat) (h : W.heap[k]? = some (.stringIter s pos)) (hp : ¬ pos < s.size) :
  ∀ ty, (Instr.next (.pointer (some ⟨k, 0, none⟩)) true ty).run P W = .ok (.tuple #[.bool false]) W := by
 intro ty
 simp [Instr.next, getObj, Sem.run, h, hp]
theorem decode_skip (s : ByteArray) (pos : Nat) (h : pos < s.size) (ha : 128 ≤ (s[pos]'h).toNat) : ∀ j, j < (Utf8.decode s pos).2 → 128 ≤ (s.get! (pos + j)).toNat := by
 have hn : ¬ (s[pos]'h).toNat < 128 := by omega
 have h0 : 128 ≤ (s.get! (pos + 0)).toNat := by rw [get_at s pos h]; exact ha
 intro j
 simp only [Utf8.decode, get_at s pos h, hn, if_false]
 repeat' split
 all_goals
  intro hj
  try simp only [Bool.and_eq_true, beq_iff_eq, decide_eq_true_eq, ge_iff_le] at *
  have hj4 : j = 0 ∨ j = 1 ∨ j = 2 ∨ j = 3 := by omega
  rcases hj4 with rfl | rfl | rfl | rfl <;> omega
theorem decode_fit (s : ByteArray) (pos : Nat) (h : pos < s.size) (ha : 128 ≤ (s[pos]'h).toNat) : pos + (Utf8.decode s pos).2 ≤ s.size := by
 have hn : ¬ (s[pos]'h).toNat < 128 := by omega
 simp only [Utf8.decode, get_at s pos h, hn, if_false]
 repeat' split
 all_goals
  try simp only [Bool.and_eq_true, beq_iff_eq, decide_eq_true_eq, ge_iff_le] at *
  omega
end Go.Proofs.YtppdihpobokfnaaGreatDoor
set_option linter.unusedVariables false
set_option linter.unusedSimpArgs false
namespace Go.Proofs.YtppdihpobokfnaaGreatDoor
open Go Go.RowKit
structure Sl where
 o : Bool
 n : Int
 a : Int
def Sl.none : Sl := ⟨false, 0, 0⟩
def scells (s : Sl) : List Value := [.bool s.o, .int .i64 s.n, .int .i64 s.a]
def tcells (m : Bool) (l : List Sl) : List Value := .bool m :: l.flatMap scells
theorem scells_len (l : List Sl) : (l.flatMap scells).length = 3 * l.length := by
 induction l with
 | nil => rfl
 | cons s r ih => rw [List.flatMap_cons, List.length_append, ih]; simp [scells]; omega
theorem tcells_len (m : Bool) (l : List Sl) : (tcells m l).length = 1 + 3 * l.length := by
 rw [tcells, List.length_cons, scells_len]; omega
theorem flat_get (l : List Sl) (k : Nat) (s : Sl) (h : l[k]? = some s) : (l.flatMap scells)[k * 3]? = some (.bool s.o) ∧ (l.flatMap scells)[k * 3 + 1]? = some (.int .i64 s.n) ∧ (l.flatMap scells)[k * 3 + 2]? = some (.int .i64 s.a) := by
 induction l generalizing k with
 | nil => simp at h
 | cons x r ih =>
  rw [List.flatMap_cons]
  cases k with
  | zero =>
   simp at h; subst h
   exact ⟨rfl, rfl, rfl⟩
  | succ k =>
   have hh := ih k (by simpa using h)
   have hl : (scells x).length = 3 := rfl
   have e : ∀ d, (k + 1) * 3 + d - 3 = k * 3 + d := by intro d; omega
   rw [List.getElem?_append_right (by rw [hl]; omega), List.getElem?_append_right (by rw [hl]; omega), List.getElem?_append_right (by rw [hl]; omega), hl, e, e]
   exact ⟨by have := e 0; simp at this; rw [this]; exact hh.1, hh.2.1, hh.2.2⟩
theorem tcell_get {m : Bool} {l : List Sl} {k : Nat} {s : Sl} (h : l[k]? = some s) : (tcells m l)[1 + k * 3]? = some (.bool s.o) ∧ (tcells m l)[1 + k * 3 + 1]? = some (.int .i64 s.n) ∧ (tcells m l)[1 + k * 3 + 2]? = some (.int .i64 s.a) := by
 obtain ⟨a, b, c⟩ := flat_get l k s h
 have e1 : 1 + k * 3 = k * 3 + 1 := by omega
 have e2 : 1 + k * 3 + 1 = (k * 3 + 1) + 1 := by omega
 have e3 : 1 + k * 3 + 2 = (k * 3 + 2) + 1 := by omega
 rw [e2, e3, e1, tcells, List.getElem?_cons_succ, List.getElem?_cons_succ, List.getElem?_cons_succ]
 exact ⟨a, b, c⟩
theorem flat_set (l : List Sl) (k : Nat) (s : Sl) (hk : k < l.length) : (((l.flatMap scells).set (k * 3) (.bool s.o)).set (k * 3 + 1) (.int .i64 s.n)).set (k * 3 + 2) (.int .i64 s.a) = (l.set k s).flatMap scells := by
 induction l generalizing k with
 | nil => simp at hk
 | cons x r ih =>
  cases k with
  | zero =>
   rw [List.set_cons_zero, List.flatMap_cons, List.flatMap_cons]
   rfl
  | succ k =>
   have hh := ih k (by simpa using hk)
   rw [List.set_cons_succ, List.flatMap_cons, List.flatMap_cons, ← hh]
   have hl : (scells x).length = 3 := rfl
   rw [List.set_append_right _ _ (by rw [hl]; omega), List.set_append_right _ _ (by rw [hl]; omega), List.set_append_right _ _ (by rw [hl]; omega), hl]
   have e0 : (k + 1) * 3 - 3 = k * 3 := by omega
   have e1 : (k + 1) * 3 + 1 - 3 = k * 3 + 1 := by omega
   have e2 : (k + 1) * 3 + 2 - 3 = k * 3 + 2 := by omega
   rw [e0, e1, e2]
theorem tcell_set (m : Bool) (l : List Sl) (k : Nat) (s : Sl) (hk : k < l.length) : (((tcells m l).set (1 + k * 3) (.bool s.o)).set (1 + k * 3 + 1) (.int .i64 s.n)).set (1 + k * 3 + 2) (.int .i64 s.a) = tcells m (l.set k s) := by
 have e1 : 1 + k * 3 = k * 3 + 1 := by omega
 have e2 : 1 + k * 3 + 1 = (k * 3 + 1) + 1 := by omega
 have e3 : 1 + k * 3 + 2 = (k * 3 + 2) + 1 := by omega
 rw [e2, e3, e1, tcells, tcells, List.set_cons_succ, List.set_cons_succ, List.set_cons_succ, flat_set l k s hk]
def firstFree (l : List Sl) : Option Nat := l.findIdx? fun s => !s.o
def slotOf (l : List Sl) (fd : Int) : Option Sl := if 0 ≤ fd ∧ fd < 16 then (l[fd.toNat]?).filter (·.o) else none
theorem slotOf_some {l : List Sl} {fd : Int} {s : Sl} (h : slotOf l fd = some s) : 0 ≤ fd ∧ fd < 16 ∧ l[fd.toNat]? = some s ∧ s.o = true := by
 unfold slotOf at h
 split at h
 · rename_i hc
   rw [Option.filter_eq_some_iff] at h
   exact ⟨hc.1, hc.2, h.1, h.2⟩
 · cases h
theorem slotOf_none {l : List Sl} (hl : l.length = 16) {fd : Int} (h : slotOf l fd = none) : fd < 0 ∨ 16 ≤ fd ∨ (0 ≤ fd ∧ fd < 16 ∧ ∃ s, l[fd.toNat]? = some s ∧ s.o = false) := by
 by_cases c : 0 ≤ fd ∧ fd < 16
 · right; right
   refine ⟨c.1, c.2, l[fd.toNat]'(by omega), List.getElem?_eq_getElem _, ?_⟩
   rw [slotOf, if_pos c, List.getElem?_eq_getElem (by omega)] at h
   cases hh : (l[fd.toNat]'(by omega)).o with
   | false => rfl
   | true => simp [Option.filter, hh] at h
 · omega
theorem free_some {l : List Sl} {k : Nat} (h : firstFree l = some k) : k < l.length ∧ (∃ s, l[k]? = some s ∧ s.o = false) ∧ ∀ j < k, ∃ s, l[j]? = some s ∧ s.o = true := by
 rw [firstFree, List.findIdx?_eq_some_iff_getElem] at h
 obtain ⟨hk, h1, h2⟩ := h
 refine ⟨hk, ⟨l[k], List.getElem?_eq_getElem hk, by simpa using h1⟩, fun j hj => ⟨l[j]'(by omega), List.getElem?_eq_getElem (by omega), ?_⟩⟩
 have := h2 j hj
 simpa using this
end Go.Proofs.YtppdihpobokfnaaGreatDoor
set_option linter.unusedVariables false
namespace Go.Proofs.YtppdihpobokfnaaGreatDoor
open Go Go.RowKit Go.ChangeShapes Go.WideShapes Go.ChangeAt
theorem law_step_laid {C : Checked} {os : Os} {f : FuncId} {fn : Func} {s : ChangeSpec} {H : Type} {enc : TypeId × Value → H} {lv : List (String × DataW Unit)} (own : ownKnob C.prog.godebug = none) (laid : laidOutB C.prog = true) (started : os.Started)
  (noInit : C.prog.inits.idxOf? f = none) (hfn : C.prog.funcs[f]? = some fn) {tb : TypeId} (hres : fn.resultTypes = #[tb]) (htb : C.prog.underlying tb = some .bool)
  (hvars : s.vars = []) (hfnv : ∀ ds : List (DataW H), ds.length = fn.params.size → s.fn H (ds ++ []) = { results := [.lit (.bool true)], args := ds })
  (hread : ∀ t ∈ fn.params.toList, C.prog.readableRec t = true ∧ t < C.prog.types.size)
  (witness : ∃ (w : World) (tape : Tape) (i : Input), w.os = os ∧ (w.forCall tape i).Shaped C.prog ∧ i.vars = [] ∧ Input.okWide C.prog (w.forCall tape i) .any w.heap.size f i ∧
    ((s.pre enc C.prog fn [] false (w.forCall tape i).memory i.args ∧ laidMetH C.prog lv (w.forCall tape i).memory) ∧ sizedMet enc C.prog fn (OpenSpec.ofChange s) false (w.forCall tape i).memory i.args) ∧ ({} : Assume).holds C.prog (lone (Frame.enter C.prog f i.args .normal) [] (w.forCall tape i)))
  (walk : ∀ (W : World) (args : Array Value), GotAll C.prog W fn.params.toList args.toList →
    Calls C.prog f args W fun e W' => e = .returned (.bool true) ∧ Below W.heap.size W W') :
  ReturnsInHanded {} C os f .any (fun w args => (s.pre enc C.prog fn [] false w args ∧ laidMetH C.prog lv w) ∧ sizedMet enc C.prog fn (OpenSpec.ofChange s) false w args) (s.post enc C.prog fn false true false false) := by
 refine returnsInHanded_of_change_and (C := C) (X := fun w _ => laidMetH C.prog lv w) (fun _ _ _ hh h => h.of_heap hh) own started noInit hfn witness ?_
 intro W base args ds gs before hval hW _ hsz _ _
 have hW' := hW
 obtain ⟨p, q, hA, hV, rfl, hfz, hnd⟩ := hW
 rw [hvars] at hV
 obtain ⟨rfl, rfl⟩ : gs = [] ∧ q = [] := by
  cases gs with
  | nil => exact ⟨rfl, hV⟩
  | cons g gs => exact hV.elim
 have hlen := trodAll_length _ _ _ _ hA
 have hvt : s.plain.varTypes C.prog = [] := by
  simp [DataSpec.varTypes, ChangeSpec.plain, hvars]
 have hw : ∀ x ∈ DataW.weightsEach C.prog fn.params.toList ds, x ≤ reachBytes := by
  rw [hvt] at hsz
  simp only [List.append_nil, List.all_eq_true, decide_eq_true_eq] at hsz
  exact hsz
 have hG : GotAll C.prog W fn.params.toList args.toList := gotAll_of (base := base) (enc := enc) _ _ ds p (fun j t v ht hv => hval j t v (by simpa using ht) (by simpa using hv)) hA hw
 refine (walk W args hG).mono fun e W' ⟨he, hb⟩ => ?_
 subst he
 have es := hfnv ds (by rw [hlen]; simp)
 refine ⟨_, rfl, ds, [], p ++ [], [], p, [], hW', ?_, ?_, ?_, hb.frame _, fun h => by cases h⟩
 · rw [es, hres]
   exact trodAll_mk1 (shut_bool htb _)
 · rw [es]
   exact trodAll_below laid hb _ _ _ _ hread hA
 · rw [es, hvars]
   rfl
end Go.Proofs.YtppdihpobokfnaaGreatDoor
