/- A part of a proof. -/
import Derived.Test.YtppdihpobokfnaaGreatDoorModW42
import Derived.Test.YtppdihpobokfnaaGreatDoorModW48
import Derived.Test.YtppdihpobokfnaaGreatDoorGR4
import Derived.Test.YtppdihpobokfnaaGreatDoorRef20
set_option linter.unusedVariables false
set_option linter.unusedSimpArgs false
set_option maxRecDepth 100000
namespace Go.Proofs.YtppdihpobokfnaaGreatDoor
open Go.RowKit Go.Joins
structure Duo (w : World) (MB N QB : Nat) (W : World) (m : Md) (r : RM) (rows : List (Nat × List Value)) : Prop where
 inv : Inv N Nul m
 below : Below w.heap.size w W
 ex : ∃ (R : Rp) (Q : Rr), R.mb = MB ∧ Q.b = QB ∧ MdAt W R m ∧ DocAt W Q r ∧ (∀ b, b < w.heap.size → R.L b = none) ∧ (∀ b, Q.O b → w.heap.size ≤ b ∧ R.L b = none) ∧ ∀ p ∈ rows, RowAt W p.1 p.2 ∧ R.L p.1 = none ∧ ¬ Q.O p.1
section
variable {w W W' : World} {MB N QB : Nat} {m : Md} {r : RM} {rows : List (Nat × List Value)}
theorem Duo.row (h : Duo w MB N QB W m r rows) {b : Nat} {xs : List Value} (hm : (b, xs) ∈ rows) : RowAt W b xs := by
 obtain ⟨R, Q, _, _, _, _, _, _, h7⟩ := h.ex
 exact (h7 _ hm).1
theorem Duo.under (h : Duo w MB N QB W m r rows) (hb : Below W.heap.size W W') : Duo w MB N QB W' m r rows := by
 obtain ⟨R, Q, h1, h2, h3, h4, h5, h6, h7⟩ := h.ex
 exact ⟨h.inv, h.below.trans (hb.mono h.below.size), R, Q, h1, h2, h3.below hb (Nat.le_refl _), h4.below hb, h5, h6, fun p hp => ⟨(h7 p hp).1.below hb (h7 p hp).1.lt, (h7 p hp).2⟩⟩
theorem Duo.drew (h : Duo w MB N QB W m r rows) : Duo w MB N QB W.drew m r rows := h.under ((Below.refl _ _).drew)
theorem Duo.put (h : Duo w MB N QB W m r rows) (hb : Below W.heap.size W W') {g : Nat} {xs : List Value} (hr : RowAt W' g xs) (hg : W.heap.size ≤ g) : Duo w MB N QB W' m r ((g, xs) :: rows) := by
 obtain ⟨R, Q, h1, h2, h3, h4, h5, h6, h7⟩ := h.ex
 refine ⟨h.inv, h.below.trans (hb.mono h.below.size), R, Q, h1, h2, h3.below hb (Nat.le_refl _), h4.below hb, h5, h6, fun p hp => ?_⟩
 rcases List.mem_cons.1 hp with rfl | hp
 · exact ⟨hr, h3.fresh hg, fun q => by have := h4.old q; omega⟩
 · exact ⟨(h7 p hp).1.below hb (h7 p hp).1.lt, (h7 p hp).2⟩
theorem Duo.val (h : Duo w MB N QB W m r rows) {a : Option Addr} {n c : Nat} {xs : List Value} (hl : LsIn rows (.slice a n c) xs) : ValS W a xs := by
 rcases hl with ⟨h1, _⟩ | ⟨g, cap, e, hm⟩
 · exact .inl h1
 · injection e with e _ _
   have hr := h.row hm
   right
   refine ⟨g, 0, e, hr.lt, fun i v hi => ?_⟩
   rw [Nat.zero_add]
   obtain ⟨hi', _⟩ := List.getElem?_eq_some_iff.1 hi
   rw [hr.cell i hi', hi]
theorem Duo.valG {α : Type} {f : α → List Value} {l : List α} {a : Option Addr} {sz : Nat} (h : Duo w MB N QB W m r rows) (hf : ∀ x, (f x).length = sz) (hg : GIn rows a f l) : ValG W a sz (l.map f) := by
 rcases hg with rfl | ⟨g, rfl, hm⟩
 · exact .inl rfl
 · have hr := h.row hm
   refine .inr ⟨g, 0, rfl, hr.lt, fun i xs hi j v hj => ?_⟩
   rw [List.getElem?_map] at hi
   obtain ⟨x, hx, rfl⟩ := Option.map_eq_some_iff.1 hi
   have h9 := flat_at hf l i x hx j v hj
   rw [Nat.zero_add, hr.cell _ (List.getElem?_eq_some_iff.1 h9).1, h9]
theorem Duo.list (h : Duo w MB N QB W m r rows) (hb : Below W.heap.size W W') {α : Type} {f : α → List Value} {l : List α} {base sz : Nat} {t : TypeId} {v : Value} (hO : W'.ownsRow base t sz v l.length (l.flatMap f)) (hbase : W.heap.size ≤ base) :
  ∃ a cap rows', v = .slice a l.length cap ∧ Duo w MB N QB W' m r rows' ∧ RSub rows rows' ∧ GIn rows' a f l := by
 rcases row_formN hO with ⟨e1, rfl⟩ | ⟨g, cap, rfl, hr, hg⟩
 · exact ⟨none, 0, rows, by rw [e1], h.under hb, RSub.refl _, .inl (List.length_eq_zero_iff.1 e1)⟩
 · exact ⟨_, cap, (g, l.flatMap f) :: rows, rfl, h.put hb hr (Nat.le_trans hbase hg), RSub.cons _, .inr ⟨g, rfl, List.mem_cons_self ..⟩⟩
theorem Duo.turnM (h : Duo w MB N QB W m r rows) {R : Rp} {Q : Rr} (h1 : R.mb = MB) (h2 : Q.b = QB) (h4 : DocAt W Q r) (h5 : ∀ b, b < w.heap.size → R.L b = none) (h6 : ∀ b, Q.O b → w.heap.size ≤ b ∧ R.L b = none) (h7 : ∀ p ∈ rows, RowAt W p.1 p.2 ∧ R.L p.1 = none ∧ ¬ Q.O p.1)
  {R' : Rp} {m' : Md} {N' : Nat} (hI : Inv N' Nul m') (hM : Mid W R.L W' R' m') (hmb : R'.mb = R.mb) {rs : List (Nat × List Value)} (hrs : ∀ p ∈ rs, RowAt W' p.1 p.2 ∧ R'.L p.1 = none ∧ W.heap.size ≤ p.1) : Duo w MB N' QB W' m' r (rs ++ rows) := by
 have hsz := h.below.size
 have hold : ∀ b, Q.O b → b < W.heap.size := fun b hb => h4.old hb
 refine ⟨hI, h.below.trans (hM.turn.under h5 hsz), R', Q, hmb.trans h1, h2, hM.md, h4.same (fun k hk => hM.turn.block k (hold k hk) (h6 k hk).2), fun b hb => ?_, fun b hb => ⟨(h6 b hb).1, ?_⟩, fun p hp => ?_⟩
 · rw [hM.ext b (Nat.lt_of_lt_of_le hb hsz)]; exact h5 b hb
 · rw [hM.ext b (hold b hb)]; exact (h6 b hb).2
 · rcases List.mem_append.1 hp with hp | hp
   · exact ⟨(hrs p hp).1, (hrs p hp).2.1, fun q => by have := hold _ q; have := (hrs p hp).2.2; omega⟩
   · have h9 := hM.row (h7 p hp).1 (h7 p hp).2.1
     exact ⟨h9.1, h9.2, (h7 p hp).2.2⟩
theorem Duo.turnR (h : Duo w MB N QB W m r rows) {R : Rp} {Q : Rr} (h1 : R.mb = MB) (h2 : Q.b = QB) (h3 : MdAt W R m) (h5 : ∀ b, b < w.heap.size → R.L b = none) (h6 : ∀ b, Q.O b → w.heap.size ≤ b ∧ R.L b = none) (h7 : ∀ p ∈ rows, RowAt W p.1 p.2 ∧ R.L p.1 = none ∧ ¬ Q.O p.1)
  {Q' : Rr} {r' : RM} (hM : DMid W Q.O W' Q' r') (hqb : Q'.b = Q.b) {rs : List (Nat × List Value)} (hrs : ∀ p ∈ rs, RowAt W' p.1 p.2 ∧ ¬ Q'.O p.1 ∧ W.heap.size ≤ p.1) : Duo w MB N QB W' m r' (rs ++ rows) := by
 have hsz := h.below.size
 have hB : Below w.heap.size w W' := h.below.trans (hM.turn.under (fun b hb q => by have := (h6 b q).1; omega) hsz)
 refine ⟨h.inv, hB, R, Q', h1, hqb.trans h2, h3.same hM.turn.size (fun b hb => hM.turn.block b (h3.old b hb) (fun q => hb (h6 b q).2)), hM.doc, h5, fun b hb => ?_, fun p hp => ?_⟩
 · by_cases c : b < W.heap.size
   · exact h6 b (hM.turn.own b c hb)
   · exact ⟨by omega, h3.fresh (by omega)⟩
 · rcases List.mem_append.1 hp with hp | hp
   · exact ⟨(hrs p hp).1, h3.fresh (hrs p hp).2.2, (hrs p hp).2.1⟩
   · have h9 := hM.row (h7 p hp).1 (h7 p hp).2.2
     exact ⟨h9.1, (h7 p hp).2.1, h9.2⟩
theorem lists_rows {P : Nat → Prop} {n0 : Nat} {v : Value} {xs : List Value} (h : (xs = [] ∧ v = nilS) ∨ ∃ g cap, v = .slice (some ⟨g, 0, none⟩) xs.length cap ∧ RowAt W' g xs ∧ P g ∧ n0 ≤ g) : ∃ rs : List (Nat × List Value), (∀ p ∈ rs, RowAt W' p.1 p.2 ∧ P p.1 ∧ n0 ≤ p.1) ∧ LsIn rs v xs := by
 rcases h with h | ⟨g, cap, e, q1, q2, q3⟩
 · exact ⟨[], fun p hp => (by cases hp), .inl h⟩
 · refine ⟨[(g, xs)], fun p hp => ?_, .inr ⟨g, cap, e, by simp⟩⟩
   rw [List.mem_singleton.1 hp]
   exact ⟨q1, q2, q3⟩
def AnsV (A : An) (e : Ending) (rows : List (Nat × List Value)) : Prop := ∃ (na la : Option Addr) (nc lc : Nat),
 e = .returned (.agg #[.int .i64 A.e, .int .i64 A.n, .string (tx A.d), .slice na (A.names.map tx).length nc, .int .i64 A.st.kind, .int .i64 A.st.size, .int .i64 A.st.links, .bool A.st.pin, .slice la A.lens.length lc, .bool false]) ∧
 LsIn rows (.slice na (A.names.map tx).length nc) (strs (A.names.map tx)) ∧ LsIn rows (.slice la A.lens.length lc) (A.lens.map (Value.int .i64))
theorem ansV_of {A : An} {ns ls : Value} {r1 r2 rows : List (Nat × List Value)} (h1 : LsIn r1 ns (strs (A.names.map tx))) (h2 : LsIn r2 ls (A.lens.map (Value.int .i64))) (s1 : RSub r1 rows) (s2 : RSub r2 rows) :
  AnsV A (.returned (.agg (ansC A.e A.n (tx A.d) ns A.st.kind A.st.size A.st.links A.st.pin ls).toArray)) rows := by
 obtain ⟨na, nc, rfl⟩ := h1.form
 obtain ⟨la, lc, rfl⟩ := h2.form
 have l1 : (strs (A.names.map tx)).length = (A.names.map tx).length := by simp [strs]
 have l2 : (A.lens.map (Value.int .i64)).length = A.lens.length := by simp
 rw [l1] at h1 ⊢
 rw [l2] at h2 ⊢
 exact ⟨na, la, nc, lc, rfl, h1.more s1, h2.more s2⟩
theorem duo_opG {p : An × Md} {N' : Nat} (h : Duo w MB N QB W m r rows) (hI : Inv N' Nul p.2) {F : Nat} {args : Array Value}
  (hc : ∀ R : Rp, R.mb = MB → MdAt W R m → Calls Tryz.prog F args W (OpG W R p)) :
  Calls Tryz.prog F args W fun e W' => ∃ rows', Duo w MB N' QB W' p.2 r rows' ∧ RSub rows rows' ∧ AnsV p.1 e rows' := by
 obtain ⟨R, Q, h1, h2, h3, h4, h5, h6, h7⟩ := h.ex
 refine (hc R h1 h3).mono ?_
 rintro e W' ⟨ns, ls, rfl, R', hM, hmb, hns, hls⟩
 obtain ⟨r1, p1, i1⟩ := lists_rows hns
 obtain ⟨r2, p2, i2⟩ := lists_rows hls
 refine ⟨(r1 ++ r2) ++ rows, h.turnM h1 h2 h4 h5 h6 h7 hI hM hmb (fun p hp => (List.mem_append.1 hp).elim (p1 p) (p2 p)), fun p hp => List.mem_append_right _ hp, ansV_of i1 i2 (fun p hp => by simp [hp]) (fun p hp => by simp [hp])⟩
theorem duo_opD {p : An × RM} (h : Duo w MB N QB W m r rows) {F : Nat} {args : Array Value}
  (hc : ∀ Q : Rr, Q.b = QB → DocAt W Q r → Calls Tryz.prog F args W (OpDG W Q p)) :
  Calls Tryz.prog F args W fun e W' => ∃ rows', Duo w MB N QB W' m p.2 rows' ∧ RSub rows rows' ∧ AnsV p.1 e rows' := by
 obtain ⟨R, Q, h1, h2, h3, h4, h5, h6, h7⟩ := h.ex
 refine (hc Q h2 h4).mono ?_
 rintro e W' ⟨ns, ls, rfl, Q', hM, hqb, hns, hls⟩
 obtain ⟨r1, p1, i1⟩ := lists_rows hns
 obtain ⟨r2, p2, i2⟩ := lists_rows hls
 refine ⟨(r1 ++ r2) ++ rows, h.turnR h1 h2 h3 h5 h6 h7 hM hqb (fun p hp => (List.mem_append.1 hp).elim (p1 p) (p2 p)), fun p hp => List.mem_append_right _ hp, ansV_of i1 i2 (fun p hp => by simp [hp]) (fun p hp => by simp [hp])⟩
end
end Go.Proofs.YtppdihpobokfnaaGreatDoor
set_option linter.unusedVariables false
set_option linter.unusedSimpArgs false
set_option maxRecDepth 100000
namespace Go.Proofs.YtppdihpobokfnaaGreatDoor
open Go.RowKit Go.Joins Go.ChangeShapes Go.WideShapes Go.Deep
section
variable {H : Type} {enc : TypeId × Value → H} {P : Program} {w : World} {base : Nat} {spare : Nat → Bool} {held : Bool}
theorem wAllW {e : TypeId} : ∀ {l : List (DataW H)} {d : DataW H}, d ∈ l → ∀ x ∈ d.weights P e, x ∈ DataW.weightsAll P e l
 | y :: l, d, h, x, hx => by
  simp only [DataW.weightsAll]
  rcases List.mem_cons.1 h with rfl | h
  · exact List.mem_append_left _ hx
  · exact List.mem_append_right _ (wAllW h x hx)
theorem wEachW : ∀ {ts : List TypeId} {l : List (DataW H)} {i : Nat} {t : TypeId} {d : DataW H}, ts[i]? = some t → l[i]? = some d → ∀ x ∈ d.weights P t, x ∈ DataW.weightsEach P ts l
 | t :: ts, d :: l, 0, _, _, h1, h2, x, hx => by
  simp at h1 h2; subst h1 h2
  simp only [DataW.weightsEach]
  exact List.mem_append_left _ hx
 | t :: ts, d :: l, i + 1, _, _, h1, h2, x, hx => by
  simp only [DataW.weightsEach]
  exact List.mem_append_right _ (wEachW (by simpa using h1) (by simpa using h2) x hx)
theorem trod_textW {t : TypeId} {fuel : Nat} {v : Value} {x : DataW H × List MemPlace} {B : Nat} (ht : P.underlying t = some .string) (h : DataW.trod enc P w base spare held fuel t [v] = some x) (hW : ∀ q ∈ x.1.weights P t, q ≤ B) : ∃ s : ByteArray, v = .string s ∧ s.size ≤ B := by
 obtain ⟨s, e, rfl, hs⟩ := DataW.trod_string ht h
 refine ⟨s, by simpa using e, ?_⟩
 have := hW s.data.toList.length (by simp [DataW.weights])
 simpa using this
theorem trod_flatW {t e : TypeId} {fs : Array Field} {fuel : Nat} {cs : List Value} {x : DataW H × List MemPlace} {α : Type} [Inhabited α] {B : Nat} (g : α → List Value) (Q : α → Prop) (ht : P.underlying t = some (.slice e)) (he : P.underlying e = some (.struct fs))
  (hone : oneCellFields P fs = true) (hC : P.cellsOf e = fs.size)
  (hel : ∀ (n : Nat) (vs : List Value), vs.length = fs.size → (∀ (i : Nat) (f : Field) (v : Value), fs[i]? = some f → vs[i]? = some v → ∃ y, DataW.trod enc P w base spare held n f.type [v] = some y ∧ ∀ q ∈ y.1.weights P f.type, q ≤ B) → ∃ z : α, vs = g z ∧ Q z)
  (hpos : 0 < fs.size)
  (h : DataW.trod enc P w base spare held fuel t cs = some x) (hW : ∀ q ∈ x.1.weights P t, q ≤ B) :
  ∃ a cap zs, cs = [.slice a (List.length zs) cap] ∧ zs.length ≤ cap ∧ cap ≤ maxLen ∧ ValG w a fs.size (zs.map g) ∧ (∀ z ∈ zs, Q z) ∧ (a = none → cap = 0) := by
 rcases open_slice ht h with ⟨rfl, _⟩ | ⟨a, len, cap, m, n, D, Pl, rfl, hb, hl, hm, hmm, rfl, hx⟩
 · exact ⟨none, 0, [], rfl, Nat.le_refl _, by simp, .inl rfl, (fun y hy => by cases hy), fun _ => rfl⟩
 · have hlm : len ≤ m := by rw [hmm]; split <;> omega
   have each : ∀ i, i < len → ∃ z : α, (∀ j v, (g z)[j]? = some v → w.cell? (a.add (i * fs.size + j)) = some v) ∧ (g z).length = fs.size ∧ Q z := by
    intro i hi
    obtain ⟨vs, g1, g2⟩ := hx i (by omega)
    rw [hC] at g1
    obtain ⟨_, hlen, hcell⟩ := World.cells?_some g1
    obtain ⟨xs, k, hk, hxy, _, hxl, hf⟩ := DataW.trod_struct he g2
    have hD : D i = .agg (xs.map (·.1)) := congrArg Prod.fst hxy
    have hWi : ∀ q ∈ DataW.weightsEach P (fs.toList.map (·.type)) (xs.map (·.1)), q ≤ B := fun q hq => by
     refine hW q ?_
     have h5 : q ∈ (D i).weights P e := by rw [hD]; simp only [DataW.weights, he]; exact hq
     have h6 := wAllW (P := P) (e := e) (List.mem_map.2 ⟨i, List.mem_range.2 hi, rfl⟩) q h5
     simp only [DataW.weights, ht]
     exact List.mem_cons_of_mem _ (List.mem_append_left _ h6)
    obtain ⟨z, hz, hQ⟩ := hel k vs hlen (fun j f v hj hv => by
     have q := hf j f hj
     obtain ⟨o, p⟩ := hone_of hone j f hj
     have hj' : j < xs.length := by rw [hxl]; exact (Array.getElem?_eq_some_iff.1 hj).1
     rw [List.getElem?_eq_getElem hj', o, p] at q
     obtain ⟨hjv, e9⟩ := List.getElem?_eq_some_iff.1 hv
     have : (vs.drop j).take 1 = [v] := by
      rw [List.drop_eq_getElem_cons hjv, e9]
      rfl
     rw [this] at q
     refine ⟨_, q, fun z hz => hWi z ?_⟩
     refine wEachW (i := j) (t := f.type) ?_ (by rw [List.getElem?_map, List.getElem?_eq_getElem hj']; rfl) z hz
     rw [List.getElem?_map, Array.getElem?_toList, hj]; rfl)
    refine ⟨z, fun j v hj => ?_, by rw [← hz]; exact hlen, hQ⟩
    rw [← hz] at hj
    obtain ⟨hjv, e9⟩ := List.getElem?_eq_some_iff.1 hj
    have := hcell j (by omega)
    rw [add_add] at this
    rw [this, hj]
   obtain ⟨q, hq⟩ := choose_lt each
   have hlen : ((List.range len).map q).length = len := by simp
   refine ⟨some a, cap, (List.range len).map q, by rw [hlen], by rw [hlen]; exact hl, hm, ?_, ?_, fun h => by cases h⟩
   · by_cases hz : len = 0
     · subst hz; exact .inl rfl
     · obtain ⟨e0, el, _⟩ := hq 0 (by omega)
       have e00 := e0 0 _ (List.getElem?_eq_getElem (by omega))
       rw [Nat.zero_mul] at e00
       obtain ⟨ea, hlt⟩ := spot_of_cell (show w.cell? a = some _ from e00)
       refine .inr ⟨a.block, a.off, by rw [← ea], hlt, fun i xs hi j v hj => ?_⟩
       have hil : i < len := by
        have := (List.getElem?_eq_some_iff.1 hi).1
        simpa using this
       have hxs : g (q i) = xs := by
        simp [hil] at hi
        exact hi
       obtain ⟨c0, _, _⟩ := hq i hil
       have c1 := c0 j v (by rw [hxs]; exact hj)
       rw [ea, addr_add] at c1
       rw [Nat.add_assoc]
       exact c1
   · intro z hz
     obtain ⟨i, hi, rfl⟩ := List.mem_map.1 hz
     exact (hq i (List.mem_range.1 hi)).2.2
end
def ClIn (c : Cl) : Prop := ClOk c ∧ c.p.size ≤ 140737488351232 ∧ c.o.size ≤ 140737488351232 ∧ c.d.size ≤ 140737488351232
theorem call_ofW {H : Type} {enc : TypeId × Value → H} {w : World} {base : Nat} {spare : Nat → Bool} {held : Bool} {n : Nat} {v0 v1 v2 v3 v4 v5 v6 : Value} {y0 y1 y2 y3 y4 y5 y6 : DataW H × List MemPlace}
  (h0 : DataW.trod enc Tryz.prog w base spare held n 3 [v0] = some y0) (h1 : DataW.trod enc Tryz.prog w base spare held n 9 [v1] = some y1) (h2 : DataW.trod enc Tryz.prog w base spare held n 9 [v2] = some y2) (h3 : DataW.trod enc Tryz.prog w base spare held n 3 [v3] = some y3) (h4 : DataW.trod enc Tryz.prog w base spare held n 3 [v4] = some y4) (h5 : DataW.trod enc Tryz.prog w base spare held n 9 [v5] = some y5) (h6 : DataW.trod enc Tryz.prog w base spare held n 4 [v6] = some y6) {B : Nat} (hw1 : ∀ q ∈ y1.1.weights Tryz.prog 9, q ≤ B) (hw2 : ∀ q ∈ y2.1.weights Tryz.prog 9, q ≤ B) (hw5 : ∀ q ∈ y5.1.weights Tryz.prog 9, q ≤ B) : ∃ c : Cl, [v0, v1, v2, v3, v4, v5, v6] = callC c ∧ ClOk c ∧ c.p.size ≤ B ∧ c.o.size ≤ B ∧ c.d.size ≤ B := by
 obtain ⟨k, rfl, b0⟩ := trod_i64 Tryz.underlying3 h0
 obtain ⟨p, rfl, b1⟩ := trod_textC Tryz.underlying9 h1
 obtain ⟨o, rfl, b2⟩ := trod_textC Tryz.underlying9 h2
 obtain ⟨_, e1, z1⟩ := trod_textW Tryz.underlying9 h1 hw1
 obtain ⟨_, e2, z2⟩ := trod_textW Tryz.underlying9 h2 hw2
 cases e1; cases e2
 obtain ⟨fd, rfl, b3⟩ := trod_i64 Tryz.underlying3 h3
 obtain ⟨nn, rfl, b4⟩ := trod_i64 Tryz.underlying3 h4
 obtain ⟨d, rfl, b5⟩ := trod_textC Tryz.underlying9 h5
 obtain ⟨_, e5, z5⟩ := trod_textW Tryz.underlying9 h5 hw5
 cases e5
 obtain ⟨on, rfl⟩ := trod_boolv Tryz.underlying4 h6
 exact ⟨⟨k, p, o, fd, nn, d, on⟩, rfl, ⟨b0, b3, b4, b1, b2, b5⟩, z1, z2, z5⟩
theorem got_calls2 {W : World} {v : Value} (h : Got Tryz.prog W 22 v) :
  ∃ a cap, ∃ l : List Cl, v = .slice a l.length cap ∧ l.length ≤ cap ∧ cap ≤ maxLen ∧ ValG W a 7 (l.map callC) ∧ (∀ z ∈ l, ClIn z) := by
 obtain ⟨base, H, enc, d, ps, h1, h2, hw⟩ := h
 obtain ⟨a, len, cap, rfl⟩ := okWide_slice Tryz.underlying22 h1
 obtain ⟨fuel, hf⟩ := h2
 obtain ⟨a', cap', l, e, h3, h4, hV, hQ, _⟩ := trod_flatW callC ClIn (B := 140737488351232) Tryz.underlying22 Tryz.underlying36 (by kernel_rfl) (by kernel_rfl)
  (fun n vs hl hall => by
    match vs, hl with
    | [v0, v1, v2, v3, v4, v5, v6], _ =>
     obtain ⟨y0, q0, z0⟩ := hall 0 _ v0 rfl rfl
     obtain ⟨y1, q1, z1⟩ := hall 1 _ v1 rfl rfl
     obtain ⟨y2, q2, z2⟩ := hall 2 _ v2 rfl rfl
     obtain ⟨y3, q3, z3⟩ := hall 3 _ v3 rfl rfl
     obtain ⟨y4, q4, z4⟩ := hall 4 _ v4 rfl rfl
     obtain ⟨y5, q5, z5⟩ := hall 5 _ v5 rfl rfl
     obtain ⟨y6, q6, z6⟩ := hall 6 _ v6 rfl rfl
     exact call_ofW q0 q1 q2 q3 q4 q5 q6 z1 z2 z5) (by decide) hf (fun q hq => by have := hw q hq; simpa [reachBytes] using this)
 simp [Value.cells] at e
 obtain ⟨e1, e2, e3⟩ := e
 subst e1 e3
 exact ⟨a, cap, l, by rw [e2], h3, h4, hV, hQ⟩
theorem got_call2 {W : World} {v : Value} (h : Got Tryz.prog W 36 v) : ∃ c : Cl, v = .agg (callC c).toArray ∧ ClIn c := by
 obtain ⟨base, H, enc, d, ps, h1, h2, hw⟩ := h
 obtain ⟨cs, rfl, hsz⟩ := okWide_struct Tryz.underlying36 h1
 obtain ⟨l⟩ := cs
 have hC : Tryz.prog.cellsOf 36 = 7 := by kernel_rfl
 obtain ⟨fuel, hf⟩ := h2
 obtain ⟨xs, n, _, hx, _, hlen, hg⟩ := DataW.trod_struct Tryz.underlying36 hf
 match l, hsz.trans hC with
 | [v0, v1, v2, v3, v4, v5, v6], _ =>
  match xs, hlen with
  | [y0, y1, y2, y3, y4, y5, y6], _ =>
   have hone : oneCellFields Tryz.prog (match Tryz.prog.underlying 36 with | some (.struct fs) => fs | _ => #[]) = true := by kernel_rfl
   rw [Tryz.underlying36] at hone
   have hall : ∀ (i : Nat) (f : Field) (v : Value) (y : DataW H × List MemPlace), DataW.trod enc Tryz.prog W 0 (fun _ => true) true n f.type (((Value.agg [v0, v1, v2, v3, v4, v5, v6].toArray).cells.toList.drop f.offset).take (Tryz.prog.cellsOf f.type)) = [y0, y1, y2, y3, y4, y5, y6][i]? → (f.offset = i ∧ Tryz.prog.cellsOf f.type = 1) → [v0, v1, v2, v3, v4, v5, v6][i]? = some v → [y0, y1, y2, y3, y4, y5, y6][i]? = some y → DataW.trod enc Tryz.prog W 0 (fun _ => true) true n f.type [v] = some y := fun i f v y r hof qv qy => by
    rw [qy, hof.1, hof.2] at r
    obtain ⟨hjv, e9⟩ := List.getElem?_eq_some_iff.1 qv
    have e8 : ((Value.agg [v0, v1, v2, v3, v4, v5, v6].toArray).cells.toList.drop i).take 1 = [v] := by
     show ([v0, v1, v2, v3, v4, v5, v6].drop i).take 1 = [v]
     rw [List.drop_eq_getElem_cons hjv, e9]
     rfl
    rw [e8] at r
    exact r
   have hD : d = .agg ([y0, y1, y2, y3, y4, y5, y6].map (·.1)) := congrArg Prod.fst hx
   have hWi : ∀ q ∈ DataW.weightsEach Tryz.prog ((match Tryz.prog.underlying 36 with | some (.struct fs) => fs | _ => #[]).toList.map fun (f : Field) => f.type) ([y0, y1, y2, y3, y4, y5, y6].map (·.1)), q ≤ 140737488351232 := fun q hq => by
    have := hw q (by rw [hD]; simp only [DataW.weights, Tryz.underlying36] at hq ⊢; exact hq)
    simpa [reachBytes] using this
   rw [Tryz.underlying36] at hWi
   obtain ⟨c, h1, h2⟩ := call_ofW (B := 140737488351232) (hall 0 _ v0 y0 (hg 0 _ rfl) (hone_of hone 0 _ rfl) rfl rfl) (hall 1 _ v1 y1 (hg 1 _ rfl) (hone_of hone 1 _ rfl) rfl rfl) (hall 2 _ v2 y2 (hg 2 _ rfl) (hone_of hone 2 _ rfl) rfl rfl) (hall 3 _ v3 y3 (hg 3 _ rfl) (hone_of hone 3 _ rfl) rfl rfl) (hall 4 _ v4 y4 (hg 4 _ rfl) (hone_of hone 4 _ rfl) rfl rfl) (hall 5 _ v5 y5 (hg 5 _ rfl) (hone_of hone 5 _ rfl) rfl rfl) (hall 6 _ v6 y6 (hg 6 _ rfl) (hone_of hone 6 _ rfl) rfl rfl) (fun q hq => hWi q (wEachW (i := 1) rfl rfl q hq)) (fun q hq => hWi q (wEachW (i := 2) rfl rfl q hq)) (fun q hq => hWi q (wEachW (i := 5) rfl rfl q hq))
   exact ⟨c, by rw [← h1], h2⟩
def BeyondW (l : List Cl) (calls bytes : Nat) (e : Ending) : Prop := ∃ b, e = .returned (.bool b) ∧ (b = false → l.length ≤ calls ∧ ∀ c ∈ l, c.p.size ≤ bytes ∧ c.o.size ≤ bytes ∧ c.d.size ≤ bytes)
theorem sum_three {a b c : Nat} {K : Int} (h : a ≤ 140737488351232 ∧ b ≤ 140737488351232 ∧ c ≤ 140737488351232) (hK : K = (a : Int) + (b : Int) + (c : Int)) : 0 ≤ K ∧ K ≤ 500000000000000 := by omega
theorem wrap_three {a b c : Nat} {K : Int} (h : a ≤ 140737488351232 ∧ b ≤ 140737488351232 ∧ c ≤ 140737488351232) (hK : K = (a : Int) + (b : Int) + (c : Int)) : wrap64 (wrap64 ((a : Int) + (b : Int)) + (c : Int)) = K := by
 have h1 : -9223372036854775808 ≤ (a : Int) + (b : Int) ∧ (a : Int) + (b : Int) ≤ 9223372036854775807 := by omega
 have h2 : -9223372036854775808 ≤ K ∧ K ≤ 9223372036854775807 := by omega
 rw [IntWalk.wrap64_in _ h1, ← hK, IntWalk.wrap64_in _ h2]
set_option maxHeartbeats 8000000 in
theorem beyond22W (a : Option Addr) (cap : Nat) (l : List Cl) (calls bytes : Nat) (w : World) (hm : l.length ≤ maxLen) (hc : calls ≤ 1000) (hb : bytes ≤ 100000) (hV : ValG w a 7 (l.map callC)) (hQ : ∀ c ∈ l, ClIn c) :
  Calls Tryz.prog 12 #[.slice a l.length cap, .int .i64 (calls : Int), .int .i64 (bytes : Int)] w fun e w' => BeyondW l calls bytes e ∧ Below w.heap.size w w' := by
 have hm' : (l.length : Int) ≤ 9223372036854775807 := by unfold maxLen at hm; omega
 by_cases hlen : calls < l.length
 · have h1 : (calls : Int) < (l.length : Int) := by omega
   go_enter Tryz.func12, Tryz.ntmps12
   go_wp2_with fail
   go_ret
   exact ⟨⟨true, rfl, fun q => by cases q⟩, Below.refl _ _⟩
 · have h1 : ¬ (calls : Int) < (l.length : Int) := by omega
   have hle : (l.length : Int) ≤ 1000 := by omega
   have HL := Lh (show l.length ≤ calls by omega)
   have HV := Lh hV
   have HQ := Lh hQ
   have hbb : (bytes : Int) ≤ 100000 := by omega
   clear hm' hm hlen hV hQ
   go_enter Tryz.func12, Tryz.ntmps12
   go_wp2_with fail
   clear h1
   go_loopw [7, 8] (fun nn jj wr => ∃ (k : Nat) (z : Int), k ≤ l.length ∧ jj = .int .i64 (k : Int) ∧ nn = .int .i64 z ∧ Below w.heap.size w wr ∧ Hid (0 ≤ z ∧ z ≤ (bytes : Int) ∧ ∀ c ∈ l.take k, c.p.size ≤ bytes ∧ c.o.size ≤ bytes ∧ c.d.size ≤ bytes)) (fun _ jj _ => l.length - (intOf jj).toNat)
   case atStart => exact ⟨0, 0, by omega, rfl, rfl, Below.refl _ _, Lh ⟨by omega, by omega, fun c hc => by simp at hc⟩⟩
   case round =>
    obtain ⟨k, z, hk, rfl, rfl, B, HZ⟩ := hrel
    by_cases hlt : k < l.length
    · obtain ⟨x, hx⟩ : ∃ x, l[k]? = some x := ⟨_, List.getElem?_eq_getElem hlt⟩
      obtain ⟨P, o, rfl, hP, c0, c1, c2, c3, c4, c5, c6⟩ := call_cells (HV.out.below B) hx
      have i1 : (k : Int) < (l.length : Int) := by omega
      have i2 : (0 : Int) ≤ (k : Int) := by omega
      have HX := Lh hx
      clear hx hlt
      go_wp2_with fail
      go_quiet (fail)
      have B2 := below_drewN B nq
      clear c0 c1 c2 c3 c4 c5 c6
      obtain ⟨P2, o2, e2, hP2, c0, c1, c2, c3, c4, c5, c6⟩ := call_cells (HV.out.below B2) HX.out
      injection e2 with e2
      injection e2 with e2 e3 e4
      subst e2 e3
      clear c1 c2 c3 c5 c6
      go_upto_region 8 with fail
      have HQX := Lh (HQ.out x (List.mem_of_getElem? HX.out)).2
      obtain ⟨K, hK⟩ : ∃ K : Int, K = (x.p.size : Int) + (x.o.size : Int) + (x.d.size : Int) := ⟨_, rfl⟩
      have HKK := Lh hK
      have e1 : wrap64 (wrap64 ((x.p.size : Int) + (x.o.size : Int)) + (x.d.size : Int)) = K := wrap_three HQX.out hK
      rw [e1]
      obtain ⟨hk0, hk9⟩ := sum_three HQX.out hK
      have HZ2 := Lh HZ.out
      obtain ⟨zz0, zz1, _⟩ := HZ.out
      clear e1 hK
      by_cases hbig : (bytes : Int) - z < K
      · go_wp2_with fail
        go_ret
        exact ⟨⟨true, rfl, fun q => by cases q⟩, B2⟩
      have HN : Hid (0 ≤ z + K ∧ z + K ≤ (bytes : Int) ∧ ∀ c ∈ l.take (k + 1), c.p.size ≤ bytes ∧ c.o.size ≤ bytes ∧ c.d.size ≤ bytes) := by
       refine ⟨by omega, by omega, fun c hc => ?_⟩
       rw [List.take_add_one, HX.out] at hc
       rcases List.mem_append.1 hc with hc | hc
       · exact HZ2.out.2.2 c hc
       · simp at hc; subst hc
         have := HKK.out
         omega
      go_wp2_with fail
      all_goals first
       | (go_ret
          exact ⟨⟨true, rfl, fun q => by cases q⟩, B2⟩)
       | (go_roundw
          case rel => exact ⟨k + 1, _, by omega, by go_num, rfl, B2, HN⟩
          case measure => simp [intOf]; omega)
    · obtain rfl : k = l.length := by omega
      have hnl : ¬ ((l.length : Int) < (l.length : Int)) := by omega
      go_wp2_with fail
      go_ret
      exact ⟨⟨false, rfl, fun _ => ⟨HL.out, by have h9 := HZ.out.2.2; rw [List.take_length] at h9; exact h9⟩⟩, B⟩
end Go.Proofs.YtppdihpobokfnaaGreatDoor
set_option linter.unusedVariables false
set_option linter.unusedSimpArgs false
set_option maxRecDepth 100000
namespace Go.Proofs.YtppdihpobokfnaaGreatDoor
open Go.RowKit Go.Joins
theorem lists_doP2 (m : Md) (c : Cl) : ((doP m c).1.names = [] ∨ ∃ k, (doP m c).1.names = (m.get k).names.map (·.1)) ∧ (doP m c).1.lens.length ≤ 1 := by
 unfold doP
 split
 · refine ⟨.inl ?_, ?_⟩ <;> (unfold openP openAt; (try simp only []); repeat' split) <;> first | rfl | exact Nat.zero_le _
 · exact ⟨.inl rfl, Nat.zero_le _⟩
 · refine ⟨.inl ?_, ?_⟩ <;> (unfold readP; (try simp only []); repeat' split) <;> first | rfl | exact Nat.zero_le _
 · refine ⟨.inl ?_, ?_⟩ <;> (unfold putP; (try simp only []); repeat' split) <;> first | rfl | exact Nat.zero_le _
 · refine ⟨.inl ?_, ?_⟩ <;> (unfold seekP; (try simp only []); repeat' split) <;> first | rfl | exact Nat.zero_le _
 · refine ⟨.inl ?_, ?_⟩ <;> (unfold resizeP; (try simp only []); repeat' split) <;> first | rfl | exact Nat.zero_le _
 · refine ⟨.inl ?_, ?_⟩ <;> (unfold mkdirP; (try simp only []); repeat' split) <;> first | rfl | exact Nat.zero_le _
 · refine ⟨.inl ?_, ?_⟩ <;> (unfold rmdirP; (try simp only []); repeat' split) <;> first | rfl | exact Nat.zero_le _
 · refine ⟨.inl ?_, ?_⟩ <;> (unfold lnkP; (try simp only []); repeat' split) <;> first | rfl | exact Nat.zero_le _
 · refine ⟨.inl ?_, ?_⟩ <;> (unfold unlinkP; (try simp only []); repeat' split) <;> first | rfl | exact Nat.zero_le _
 · refine ⟨.inl ?_, ?_⟩ <;> (unfold renameP; (try simp only []); repeat' split) <;> first | rfl | exact Nat.zero_le _
 · unfold listP
   simp only []
   split
   · exact ⟨.inl rfl, Nat.zero_le _⟩
   · split
     · exact ⟨.inl rfl, Nat.zero_le _⟩
     · exact ⟨.inr ⟨_, rfl⟩, Nat.zero_le _⟩
 · refine ⟨.inl ?_, ?_⟩ <;> (unfold statP; (try simp only []); repeat' split) <;> first | rfl | exact Nat.zero_le _
 · refine ⟨.inl ?_, ?_⟩ <;> (unfold fstatP; (try simp only []); repeat' split) <;> first | rfl | exact Nat.zero_le _
 · refine ⟨.inl ?_, ?_⟩ <;> (unfold pinP; (try simp only []); repeat' split) <;> first | rfl | exact Nat.zero_le _
 · exact ⟨.inl rfl, Nat.zero_le _⟩
 · exact ⟨.inl rfl, Nat.zero_le _⟩
 · exact ⟨.inl rfl, Nat.le_refl _⟩
 · exact ⟨.inl rfl, Nat.zero_le _⟩
 · exact ⟨.inl rfl, Nat.zero_le _⟩
 · exact ⟨.inl rfl, Nat.zero_le _⟩
theorem ans_le2 {N : Nat} {m : Md} (h : Inv N Nul m) (c : Cl) : (doP m c).1.names.length ≤ N ∧ (doP m c).1.lens.length ≤ 1 := by
 obtain ⟨h1, h2⟩ := lists_doP2 m c
 refine ⟨?_, h2⟩
 rcases h1 with h1 | ⟨k, h1⟩
 · rw [h1]; exact Nat.zero_le _
 · rw [h1, List.length_map]
   cases hk : lookK m.nodes k with
   | none => rw [Md.get, hk]; exact Nat.zero_le _
   | some d =>
    rw [Md.get_look hk]
    have h3 := count_dir h.rise hk
    have h4 := List.countP_le_length (p := fun e : En => e.dir == k) (l := entsOf m.nodes)
    have h5 := h.few
    omega
theorem short_lists (m : Md) (c : Cl) (n : Int) : (shortP m c n).1.names = [] ∧ (shortP m c n).1.lens = [] := by
 unfold shortP putP
 (try simp only []); (repeat' split) <;> exact ⟨rfl, rfl⟩
def AnsX (A : An) (ns : List ByteArray) (e : Ending) (rows : List (Nat × List Value)) : Prop := ∃ (na la : Option Addr) (nc lc : Nat),
 e = .returned (.agg #[.int .i64 A.e, .int .i64 A.n, .string (tx A.d), .slice na ns.length nc, .int .i64 A.st.kind, .int .i64 A.st.size, .int .i64 A.st.links, .bool A.st.pin, .slice la A.lens.length lc, .bool false]) ∧
 LsIn rows (.slice na ns.length nc) (strs ns) ∧ LsIn rows (.slice la A.lens.length lc) (A.lens.map (Value.int .i64))
theorem cl_cellsD {W : World} {P o : Nat} {V : List Cl} {i : Nat} {x : Cl} (h : ValG W (some ⟨P, o, none⟩) 7 (V.map callC)) (hx : V[i]? = some x) : W.cell? ⟨P, o + i * 7, none⟩ = some (.int .i64 x.k) ∧ W.cell? ⟨P, o + i * 7 + 1, none⟩ = some (.string x.p) ∧ W.cell? ⟨P, o + i * 7 + 2, none⟩ = some (.string x.o) ∧ W.cell? ⟨P, o + i * 7 + 3, none⟩ = some (.int .i64 x.fd) ∧ W.cell? ⟨P, o + i * 7 + 4, none⟩ = some (.int .i64 x.n) ∧ W.cell? ⟨P, o + i * 7 + 5, none⟩ = some (.string x.d) ∧ W.cell? ⟨P, o + i * 7 + 6, none⟩ = some (.bool x.on) := by
 obtain ⟨Q, q, e, _, hA⟩ := h.at (i := i) (xs := callC x) (by rw [List.getElem?_map, hx]; rfl)
 injection e with e
 injection e with e1 e2
 subst e1 e2
 exact ⟨hA 0 _ rfl, hA 1 _ rfl, hA 2 _ rfl, hA 3 _ rfl, hA 4 _ rfl, hA 5 _ rfl, hA 6 _ rfl⟩
section
variable {w W W' : World} {MB N QB : Nat} {m : Md} {r : RM} {rows : List (Nat × List Value)}
theorem sim_full (hI : Inv N Nul m) (hN : N ≤ 900000) (hS : Sim m r) : RFull r ∧ r.ents.length ≤ 999999 := ⟨hS.full hI hN, by rw [hS.ents.length_eq]; have := hI.few; omega⟩
theorem duo_start {W0 W1 W2 : World} (hB : Below w.heap.size w W0) {n : Nat} (hn : 8 ≤ n ∧ n ≤ 512) {R : Rp} (h1 : MdAt W1 R (newP n)) (hb1 : Below W0.heap.size W0 W1) (hL : ∀ b, b < W0.heap.size → R.L b = none) {Q : Rr} (h2 : DocAt W2 Q (newRM n)) (hb2 : Below W1.heap.size W1 W2) (hq : ∀ k, Q.O k → W1.heap.size ≤ k) {rows : List (Nat × List Value)} (hr : ∀ p ∈ rows, RowAt W0 p.1 p.2) :
  Duo w R.mb 0 Q.b W2 (newP n) (newRM n) rows :=
 ⟨Inv.new (by omega) (by omega), hB.trans ((hb1.trans (hb2.mono hb1.size)).mono hB.size), R, Q, rfl, rfl, h1.below hb2 (Nat.le_refl _), h2, fun b hb => hL b (Nat.lt_of_lt_of_le hb hB.size), fun b hb => ⟨by have := hq b hb; have := hb1.size; have := hB.size; omega, h1.fresh (hq b hb)⟩, fun p hp => ⟨(hr p hp).below (hb1.trans (hb2.mono hb1.size)) (hr p hp).lt, hL _ (hr p hp).lt, fun q => by have := hq _ q; have := (hr p hp).lt; have := hb1.size; omega⟩⟩
theorem duo_do (h : Duo w MB N QB W m r rows) (hN : N ≤ 900000) (c : Cl) (hc : (Lit.int .i64 c.k).wf = true) (A : An) (m' : Md) (hA : doP m c = (A, m')) (ns : List ByteArray) (hns : ns = A.names.map tx) :
  Calls Tryz.prog 15 #[.pointer (some ⟨MB, 0, none⟩), .agg #[.int .i64 c.k, .string c.p, .string c.o, .int .i64 c.fd, .int .i64 c.n, .string c.d, .bool c.on]] W fun e W' => ∃ rows', Duo w MB (N + 1) QB W' m' r rows' ∧ RSub rows rows' ∧ AnsX A ns e rows' := by
 have := duo_opG (p := doP m c) (F := 15) (args := #[.pointer (some ⟨MB, 0, none⟩), .agg #[.int .i64 c.k, .string c.p, .string c.o, .int .i64 c.fd, .int .i64 c.n, .string c.d, .bool c.on]]) h (h.inv.doP hN c) (fun R hR hM => by rw [← hR]; exact mdo R m c W hM (h.inv.good hN) h.inv.sorted hc)
 rw [hA] at this
 subst hns
 exact this
theorem duo_rdo (h : Duo w MB N QB W m r rows) (hF : RFull r) (hm : r.ents.length ≤ 999999) (c : Cl) (hp : c.p.size ≤ 100000) (ho : c.o.size ≤ 100000) (hd : c.d.size ≤ 1000000) (A : An) (r' : RM) (hA : doR r c = (A, r')) (ns : List ByteArray) (hns : ns = A.names.map tx) :
  Calls Tryz.prog 26 #[.pointer (some ⟨QB, 0, none⟩), .agg #[.int .i64 c.k, .string c.p, .string c.o, .int .i64 c.fd, .int .i64 c.n, .string c.d, .bool c.on]] W fun e W' => ∃ rows', Duo w MB N QB W' m r' rows' ∧ RSub rows rows' ∧ AnsX A ns e rows' := by
 have := duo_opD (p := doR r c) (F := 26) (args := #[.pointer (some ⟨QB, 0, none⟩), .agg #[.int .i64 c.k, .string c.p, .string c.o, .int .i64 c.fd, .int .i64 c.n, .string c.d, .bool c.on]]) h (fun Q hQ hD => by rw [← hQ]; exact r22do Q r c W hD hF hm hp ho hd)
 rw [hA] at this
 subst hns
 exact this
theorem duo_short (h : Duo w MB N QB W m r rows) (hN : N ≤ 900000) (c : Cl) (n : Int) (hd : c.d.size ≤ 1000000) (A : An) (m' : Md) (hA : shortP m c n = (A, m')) (ns : List ByteArray) (hns : ns = A.names.map tx) :
  Calls Tryz.prog 27 #[.pointer (some ⟨MB, 0, none⟩), .agg #[.int .i64 c.k, .string c.p, .string c.o, .int .i64 c.fd, .int .i64 c.n, .string c.d, .bool c.on], .int .i64 n] W fun e W' => ∃ rows', Duo w MB N QB W' m' r rows' ∧ RSub rows rows' ∧ AnsX A ns e rows' := by
 have := duo_opG (p := shortP m c n) (F := 27) (args := #[.pointer (some ⟨MB, 0, none⟩), .agg #[.int .i64 c.k, .string c.p, .string c.o, .int .i64 c.fd, .int .i64 c.n, .string c.d, .bool c.on], .int .i64 n]) h (h.inv.short c n) (fun R hR hM => by rw [← hR]; exact (mshort R m c n W hM (h.inv.good hN) hd).mono (fun _ _ q => q.all (short_lists m c n).1 (short_lists m c n).2))
 rw [hA] at this
 subst hns
 exact this
theorem duo_rshort (h : Duo w MB N QB W m r rows) (hF : RFull r) (c : Cl) (n : Int) (hd : c.d.size ≤ 1000000) (A : An) (r' : RM) (hA : shortR r c n = (A, r')) (ns : List ByteArray) (hns : ns = A.names.map tx) :
  Calls Tryz.prog 28 #[.pointer (some ⟨QB, 0, none⟩), .agg #[.int .i64 c.k, .string c.p, .string c.o, .int .i64 c.fd, .int .i64 c.n, .string c.d, .bool c.on], .int .i64 n] W fun e W' => ∃ rows', Duo w MB N QB W' m r' rows' ∧ RSub rows rows' ∧ AnsX A ns e rows' := by
 have := duo_opD (p := shortR r c n) (F := 28) (args := #[.pointer (some ⟨QB, 0, none⟩), .agg #[.int .i64 c.k, .string c.p, .string c.o, .int .i64 c.fd, .int .i64 c.n, .string c.d, .bool c.on], .int .i64 n]) h (fun Q hQ hD => by rw [← hQ]; exact r22short Q r c n W hD hF hd)
 rw [hA] at this
 subst hns
 exact this
theorem duo_view (h : Duo w MB N QB W m r rows) (hN : N ≤ 20000) :
  Calls Tryz.prog 19 #[.pointer (some ⟨MB, 0, none⟩)] W fun e W' => ∃ a cap rows', e = .returned (.slice a (viewP m).length cap) ∧ Duo w MB N QB W' m r rows' ∧ RSub rows rows' ∧ GIn rows' a itC (viewP m) := by
 obtain ⟨R, Q, h1, h2, h3, _⟩ := h.ex
 subst h1
 refine (mview W h3 h.inv hN).mono ?_
 rintro e W' ⟨v, base, rfl, hO, hB, hbase⟩
 obtain ⟨a, cap, rows', rfl, q⟩ := h.list hB hO hbase
 exact ⟨a, cap, rows', rfl, q⟩
theorem duo_rview (h : Duo w MB N QB W m r rows) (hN : N ≤ 20000) (hS : Sim m r) :
  Calls Tryz.prog 29 #[.pointer (some ⟨QB, 0, none⟩)] W fun e W' => ∃ a cap rows', e = .returned (.slice a (viewP m).length cap) ∧ Duo w MB N QB W' m r rows' ∧ RSub rows rows' ∧ GIn rows' a itC (viewP m) := by
 obtain ⟨R, Q, h1, h2, h3, h4, _⟩ := h.ex
 subst h2
 refine (r22view Q r h.inv hN hS W h4).mono ?_
 rw [hS.view h.inv]
 rintro e W' ⟨v, rfl, hO, hB⟩
 obtain ⟨a, cap, rows', rfl, q⟩ := h.list hB hO (Nat.le_refl _)
 exact ⟨a, cap, rows', rfl, q⟩
theorem duo_opened (h : Duo w MB N QB W m r rows) (hN : N ≤ 20000) :
  Calls Tryz.prog 21 #[.pointer (some ⟨MB, 0, none⟩)] W fun e W' => ∃ a cap rows', e = .returned (.slice a (openedP m).length cap) ∧ Duo w MB N QB W' m r rows' ∧ RSub rows rows' ∧ GIn rows' a opC (openedP m) := by
 obtain ⟨R, Q, h1, h2, h3, _⟩ := h.ex
 subst h1
 refine (mopened W h3 h.inv hN).mono ?_
 rintro e W' ⟨v, rfl, hO, hB⟩
 obtain ⟨a, cap, rows', rfl, q⟩ := h.list hB hO (Nat.le_refl _)
 exact ⟨a, cap, rows', rfl, q⟩
theorem duo_ropened (h : Duo w MB N QB W m r rows) (hN : N ≤ 20000) (hS : Sim m r) :
  Calls Tryz.prog 30 #[.pointer (some ⟨QB, 0, none⟩)] W fun e W' => ∃ a cap rows', e = .returned (.slice a (openedP m).length cap) ∧ Duo w MB N QB W' m r rows' ∧ RSub rows rows' ∧ GIn rows' a opC (openedP m) := by
 obtain ⟨R, Q, h1, h2, h3, h4, _⟩ := h.ex
 subst h2
 refine (r22opened Q r h.inv hN hS W h4).mono ?_
 rw [hS.opened h.inv]
 rintro e W' ⟨v, rfl, hO, hB⟩
 obtain ⟨a, cap, rows', rfl, q⟩ := h.list hB hO (Nat.le_refl _)
 exact ⟨a, cap, rows', rfl, q⟩
theorem duo_again (h : Duo w MB N QB W m r rows) (hN : N ≤ 900000) (hI : Inv N Nul (againP m)) :
  Calls Tryz.prog 32 #[.pointer (some ⟨MB, 0, none⟩)] W fun e W' => e = .returned (.tuple #[]) ∧ Duo w MB N QB W' (againP m) r rows := by
 obtain ⟨R, Q, h1, h2, h3, h4, h5, h6, h7⟩ := h.ex
 subst h1
 refine (magain R m W h3 h.inv hN).mono ?_
 rintro e W' ⟨rfl, R', hM, hmb⟩
 exact ⟨rfl, h.turnM rfl h2 h4 h5 h6 h7 hI hM hmb (rs := []) (fun p hp => by cases hp)⟩
theorem duo_ragain (h : Duo w MB N QB W m r rows) (hF : RFull r) :
  Calls Tryz.prog 33 #[.pointer (some ⟨QB, 0, none⟩)] W fun e W' => e = .returned (.tuple #[]) ∧ Duo w MB N QB W' m (againR r) rows := by
 obtain ⟨R, Q, h1, h2, h3, h4, h5, h6, h7⟩ := h.ex
 subst h2
 refine (r22again Q r hF W h4).mono ?_
 rintro e W' ⟨rfl, Q', hM, hqb⟩
 exact ⟨rfl, h.turnR h1 rfl h3 h5 h6 h7 hM hqb (rs := []) (fun p hp => by cases hp)⟩
end
end Go.Proofs.YtppdihpobokfnaaGreatDoor
