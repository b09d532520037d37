/- The frame of every law's proof: what a walk is told of the arguments ('Got'), and that a walk which returns true and turns nothing that was there proves the law's step. No function in sight. -/
import Derived.WalkKit
import Derived.ProofKit
import Derived.OpenShut
import Derived.ShutString
import Derived.ChangeOld
import Derived.Below
import Derived.SizedLaws
set_option linter.unusedVariables false
namespace Go.Proofs.Ytfgnemddamebaaa
open Go Go.RowKit Go.ChangeShapes Go.WideShapes Go.ChangeAt

/-- an argument as it came in: its cells' make, its reading, and how much memory it takes -/
def Got (P : Program) (W : World) (t : TypeId) (v : Value) : Prop :=
  ∃ (base : Nat) (H : Type) (enc : TypeId × Value → H) (d : DataW H) (ps : List MemPlace),
    Value.okWide P W .any base t v ∧ DataW.Trod enc P W 0 (fun _ => true) true t v d ps ∧ ∀ x ∈ d.weights P t, x ≤ reachBytes

def GotAll (P : Program) (W : World) : List TypeId → List Value → Prop
  | [], [] => True
  | t :: ts, v :: vs => Got P W t v ∧ GotAll P W ts vs
  | _, _ => False

section
variable {P : Program} {W : World} {H : Type} {enc : TypeId × Value → H}

theorem gotAll_of {base : Nat} : ∀ (ts : List TypeId) (vs : List Value) (ds : List (DataW H)) (ps : List MemPlace),
    (∀ (j : Nat) t v, ts[j]? = some t → vs[j]? = some v → Value.okWide P W .any base t v) →
    DataW.TrodAll enc P W 0 (fun _ => true) true ts vs ds ps →
    (∀ x ∈ DataW.weightsEach P ts ds, x ≤ reachBytes) → GotAll P W ts vs
  | [], [], [], _, _, _, _ => trivial
  | t :: ts, v :: vs, d :: ds, ps, hv, ht, hw => by
    obtain ⟨p, q, h1, h2, rfl⟩ := ht
    simp only [DataW.weightsEach, List.mem_append] at hw
    exact ⟨⟨base, H, enc, d, p, hv 0 t v rfl rfl, h1, fun x hx => hw x (.inl hx)⟩,
      gotAll_of ts vs ds q (fun j t' v' h h' => hv (j + 1) t' v' (by simpa using h) (by simpa using h')) h2 (fun x hx => hw x (.inr hx))⟩
  | [], [], _ :: _, _, _, ht, _ => ht.elim
  | [], _ :: _, _, _, _, ht, _ => ht.elim
  | _ :: _, [], _, _, _, ht, _ => ht.elim
  | _ :: _, _ :: _, [], _, _, ht, _ => ht.elim

/-- arguments read as they did, behind a walk that turned nothing -/
theorem trodAll_below (hl : laidOutB P = true) {W' : World} (hb : Below W.heap.size W W') :
    ∀ (ts : List TypeId) (vs : List Value) (ds : List (DataW H)) (ps : List MemPlace), (∀ t ∈ ts, P.readableRec t = true ∧ t < P.types.size) →
    DataW.TrodAll enc P W 0 (fun _ => true) true ts vs ds ps → DataW.TrodAll enc P W' 0 (fun b => decide (b < W.heap.size)) true ts vs ds ps
  | [], [], [], _, _, ht => ht
  | t :: ts, v :: vs, d :: ds, ps, hr, ht => by
    obtain ⟨p, q, h1, h2, rfl⟩ := ht
    have hlt : ∀ x ∈ p, x.block < W.heap.size := by obtain ⟨m, hm⟩ := h1; exact DataW.trod_lt m _ _ _ hm
    exact ⟨p, q, Below.trod hl (hr t (List.mem_cons_self ..)).1 (hr t (List.mem_cons_self ..)).2 h1 hb hlt, trodAll_below hl hb ts vs ds q (fun u hu => hr u (List.mem_cons_of_mem _ hu)) h2, rfl⟩
  | [], [], _ :: _, _, _, ht => ht.elim
  | [], _ :: _, _, _, _, ht => ht.elim
  | _ :: _, [], _, _, _, ht => ht.elim
  | _ :: _, _ :: _, [], _, _, ht => ht.elim

theorem trodAll_length : ∀ {w : World} {b : Nat} {sp : Nat → Bool} {hd : Bool} (ts : List TypeId) (vs : List Value) (ds : List (DataW H)) (ps : List MemPlace), DataW.TrodAll enc P w b sp hd ts vs ds ps → ds.length = ts.length
  | _, _, _, _, [], [], [], _, _ => rfl
  | _, _, _, _, t :: ts, v :: vs, d :: ds, ps, ht => by
    obtain ⟨p, q, h1, h2, rfl⟩ := ht
    simp [trodAll_length ts vs ds q h2]
  | _, _, _, _, [], [], _ :: _, _, ht => ht.elim
  | _, _, _, _, [], _ :: _, _, _, ht => ht.elim
  | _, _, _, _, _ :: _, [], _, _, ht => ht.elim
  | _, _, _, _, _ :: _, _ :: _, [], _, ht => ht.elim
end

/-- THE FRAME -/
theorem law_step {C : Checked} {os : Os} {f : FuncId} {fn : Func} {s : ChangeSpec} {H : Type} {enc : TypeId × Value → H} (own : ownKnob C.prog.godebug = none) (laid : laidOutB C.prog = true) (started : os.Started)
    (noInit : C.prog.inits.idxOf? f = none) (hfn : C.prog.funcs[f]? = some fn) {tb : TypeId} (hres : fn.resultTypes = #[tb]) (htb : C.prog.underlying tb = some .bool)
    (hvars : s.vars = []) (hfnv : ∀ ds : List (DataW H), ds.length = fn.params.size → s.fn H (ds ++ []) = { results := [.lit (.bool true)], args := ds })
    (hread : ∀ t ∈ fn.params.toList, C.prog.readableRec t = true ∧ t < C.prog.types.size)
    (witness : ∃ (w : World) (tape : Tape) (i : Input), w.os = os ∧ (w.forCall tape i).Shaped C.prog ∧ i.vars = [] ∧ Input.okWide C.prog (w.forCall tape i) .any w.heap.size f i ∧
      s.pre6 enc C.prog fn [] false (w.forCall tape i).memory i.args ∧ ({} : Assume).holds C.prog (lone (Frame.enter C.prog f i.args .normal) [] (w.forCall tape i)))
    (walk : ∀ (W : World) (args : Array Value), GotAll C.prog W fn.params.toList args.toList →
      Calls C.prog f args W fun e W' => e = .returned (.bool true) ∧ Below W.heap.size W W') :
    ReturnsInHanded {} C os f .any (s.pre6 enc C.prog fn [] false) (s.post enc C.prog fn false true false false) := by
  refine returnsInHanded_of_change_sized (C := C) own started noInit hfn witness ?_
  intro W base args ds gs before hval hW _ hsz _
  have hW' := hW
  obtain ⟨p, q, hA, hV, rfl, hfz, hnd⟩ := hW
  rw [hvars] at hV
  obtain ⟨rfl, rfl⟩ : gs = [] ∧ q = [] := by
    cases gs with
    | nil => exact ⟨rfl, hV⟩
    | cons g gs => exact hV.elim
  have hlen := trodAll_length _ _ _ _ hA
  have hvt : s.plain.varTypes C.prog = [] := by
    simp [DataSpec.varTypes, ChangeSpec.plain, hvars]
  have hw : ∀ x ∈ DataW.weightsEach C.prog fn.params.toList ds, x ≤ reachBytes := by
    rw [hvt] at hsz
    simp only [List.append_nil, List.all_eq_true, decide_eq_true_eq] at hsz
    exact hsz
  have hG : GotAll C.prog W fn.params.toList args.toList := gotAll_of (base := base) (enc := enc) _ _ ds p (fun j t v ht hv => hval j t v (by simpa using ht) (by simpa using hv)) hA hw
  refine (walk W args hG).mono fun e W' ⟨he, hb⟩ => ?_
  subst he
  have es := hfnv ds (by rw [hlen]; simp)
  refine ⟨_, rfl, ds, [], p ++ [], [], p, [], hW', ?_, ?_, ?_, hb.frame _, fun h => by cases h⟩
  · rw [es, hres]
    exact trodAll_mk1 (shut_bool htb _)
  · rw [es]
    exact trodAll_below laid hb _ _ _ _ hread hA
  · rw [es, hvars]
    rfl

/-! ### opening what came in -/

section
variable {P : Program} {W : World} {t : TypeId} {v : Value}

theorem got_int {k : IntKind} (ht : P.underlying t = some (.int k)) (h : Got P W t v) : ∃ n, v = .int k n ∧ (Lit.int k n).wf = true := by
  obtain ⟨base, H, enc, d, ps, h1, h2, _⟩ := h
  obtain ⟨n, e, _, _, hw⟩ := open_int ht h1 h2
  exact ⟨n, e, hw⟩

theorem got_i64 (ht : P.underlying t = some (.int .i64)) (h : Got P W t v) : ∃ n, v = .int .i64 n ∧ -9223372036854775808 ≤ n ∧ n ≤ 9223372036854775807 := by
  obtain ⟨n, e, hw⟩ := got_int ht h
  have := bounds_i64 hw
  exact ⟨n, e, this.1, this.2⟩

theorem got_u64 (ht : P.underlying t = some (.int .u64)) (h : Got P W t v) : ∃ n, v = .int .u64 n ∧ 0 ≤ n ∧ n ≤ 18446744073709551615 := by
  obtain ⟨n, e, hw⟩ := got_int ht h
  have := bounds_u64 hw
  exact ⟨n, e, this.1, this.2⟩

theorem got_u8 (ht : P.underlying t = some (.int .u8)) (h : Got P W t v) : ∃ n, v = .int .u8 n ∧ 0 ≤ n ∧ n ≤ 255 := by
  obtain ⟨n, e, hw⟩ := got_int ht h
  have := bounds_u8 hw
  exact ⟨n, e, this.1, this.2⟩

theorem got_string (ht : P.underlying t = some .string) (h : Got P W t v) : ∃ s, v = .string s ∧ s.size ≤ 140737488351232 := by
  obtain ⟨base, H, enc, d, ps, h1, h2, h3⟩ := h
  obtain ⟨s, e, ed, _, _⟩ := Go.ChangeMaps.open_string ht h1 h2
  subst ed
  refine ⟨s, e, ?_⟩
  have := h3 s.data.toList.length (by simp [DataW.weights])
  simpa [reachBytes] using this

theorem size_le_maxLen {s : ByteArray} (h : s.size ≤ 140737488351232) : s.size ≤ maxLen := by unfold maxLen; omega

/-- is a type a struct or an array of n ints of one kind? -/
def flatB (P : Program) (t : TypeId) (k : IntKind) (n : Nat) : Bool :=
  (match P.underlying t with | some (.struct _) => true | some (.array _ _) => true | _ => false) &&
  (match P.cellTypes P.depth t with | some ts => ts.length == n && ts.all (fun u => match P.underlying u with | some (.int k') => k' == k | _ => false) | none => false) && P.cellsOf t == n

/-- a struct or an array all of whose cells are ints of one kind -/
theorem got_flat {k : IntKind} {n : Nat} (hB : flatB P t k n = true) (h : Got P W t v) :
    ∃ zs : List Int, v = .agg (zs.map (Value.int k)).toArray ∧ zs.length = n ∧ ∀ z ∈ zs, k.has z := by
  simp only [flatB, Bool.and_eq_true, beq_iff_eq] at hB
  obtain ⟨⟨hs, hT⟩, hc⟩ := hB
  obtain ⟨ts, hts, hn, hall⟩ : ∃ ts, P.cellTypes P.depth t = some ts ∧ ts.length = n ∧ ts.all (fun u => match P.underlying u with | some (.int k') => k' == k | _ => false) = true := by
    cases hq : P.cellTypes P.depth t with
    | none => rw [hq] at hT; simp at hT
    | some ts =>
      rw [hq] at hT
      simp only [Bool.and_eq_true, beq_iff_eq] at hT
      exact ⟨ts, rfl, hT.1, hT.2⟩
  obtain ⟨base, H, enc, d, ps, h1, _, _⟩ := h
  have hag : ∃ cs, v = .agg cs ∧ cs.size = P.cellsOf t ∧ Row.okWide P W .any base t cs := by
    cases hu : P.underlying t with
    | none => rw [hu] at hs; simp at hs
    | some d =>
      rw [hu] at hs
      simp only [Value.okWide, hu] at h1
      cases d <;> first | exact h1 | simp at hs
  obtain ⟨cs, rfl, hsz, ts', hts', _, hcell⟩ := hag
  rw [hts] at hts'
  obtain rfl : ts = ts' := by injection hts'
  have hk : ∀ i (hi : i < cs.size), ∃ z, cs[i] = .int k z ∧ k.has z := by
    intro i hi
    obtain ⟨u, hu, hok⟩ := hcell i cs[i] (by simp [hi])
    have hmem : u ∈ ts := List.mem_of_getElem? hu
    have := List.all_eq_true.1 hall u hmem
    cases hd : P.underlying u with
    | none => rw [hd] at this; simp at this
    | some d =>
      rw [hd] at this
      cases d <;> simp at this
      subst this
      simp only [Cell.okWide, hd] at hok
      generalize cs[i] = c at hok
      cases c <;> simp [Cell.ok, hd] at hok
      rename_i k' z
      exact ⟨z, by rw [hok.1], hok.2⟩
  refine ⟨cs.toList.map fun c => match c with | .int _ z => z | _ => 0, ?_, by simp [hsz, hc], ?_⟩
  · congr 1
    apply Array.ext
    · simp
    · intro i h1 h2
      obtain ⟨z, hz, _⟩ := hk i h1
      simp [hz]
  · intro z hz
    simp only [List.mem_map] at hz
    obtain ⟨c, hc', rfl⟩ := hz
    obtain ⟨i, hi, rfl⟩ := List.getElem_of_mem hc'
    obtain ⟨z, hz, hh⟩ := hk i (by simpa using hi)
    simp only [Array.getElem_toList, hz]
    exact hh

theorem has_i64 {z : Int} (h : IntKind.i64.has z) : -9223372036854775808 ≤ z ∧ z ≤ 9223372036854775807 := by
  simp only [IntKind.has, IntKind.min, IntKind.max, IntKind.signed, IntKind.bits] at h
  simpa using h
theorem has_u64 {z : Int} (h : IntKind.u64.has z) : 0 ≤ z ∧ z ≤ 18446744073709551615 := by
  simp only [IntKind.has, IntKind.min, IntKind.max, IntKind.signed, IntKind.bits] at h
  simpa using h
theorem has_u8 {z : Int} (h : IntKind.u8.has z) : 0 ≤ z ∧ z ≤ 255 := by
  simp only [IntKind.has, IntKind.min, IntKind.max, IntKind.signed, IntKind.bits] at h
  simpa using h

end

section
variable {P : Program} {W : World}
theorem gotAll_args1 {a : TypeId} {args : Array Value} (h : GotAll P W [a] args.toList) : ∃ v0, args = #[v0] ∧ Got P W a v0 := by
  obtain ⟨l⟩ := args
  match l, h with
  | [v0], h => exact ⟨v0, rfl, h.1⟩
theorem gotAll_args2 {a b : TypeId} {args : Array Value} (h : GotAll P W [a, b] args.toList) : ∃ v0 v1, args = #[v0, v1] ∧ Got P W a v0 ∧ Got P W b v1 := by
  obtain ⟨l⟩ := args
  match l, h with
  | [v0, v1], h => exact ⟨v0, v1, rfl, h.1, h.2.1⟩
theorem gotAll_args3 {a b c : TypeId} {args : Array Value} (h : GotAll P W [a, b, c] args.toList) : ∃ v0 v1 v2, args = #[v0, v1, v2] ∧ Got P W a v0 ∧ Got P W b v1 ∧ Got P W c v2 := by
  obtain ⟨l⟩ := args
  match l, h with
  | [v0, v1, v2], h => exact ⟨v0, v1, v2, rfl, h.1, h.2.1, h.2.2.1⟩
end

/-- a cell of a block that was laid ahead of a call -/
theorem new_cell {w w1 : World} {C : Array Value} {T : TypeId} (hb : Below (w.alloc (.cells C T)).heap.size (w.alloc (.cells C T)) w1) (i : Nat) {v : Value} (h : C[i]? = some v) : w1.cell? ⟨w.heap.size, i, none⟩ = some v := by
  rw [hb.cell (p := ⟨w.heap.size, i, none⟩) (by simp), World.cell?_alloc_new]
  exact h
end Go.Proofs.Ytfgnemddamebaaa
