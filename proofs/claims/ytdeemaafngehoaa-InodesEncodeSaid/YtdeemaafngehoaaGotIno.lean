/- What is known of an inode that came in, and of an entry. -/
import Derived.Test.YtdeemaafngehoaaEntWalks4
import Derived.Deep.Slices
import Derived.Deep.Fields
import Derived.ChangeSame
set_option linter.unusedVariables false
set_option linter.unusedSimpArgs false
set_option maxRecDepth 100000
namespace Go.Proofs.Ytdeemaafngehoaa
open Go.RowKit Go.Joins Go.ChangeShapes Go.WideShapes Go.Deep

abbrev iv (k : Int) (p : Bool) (l s d : Int) (a : Option Addr) (n cap : Nat) : Value := .agg #[.int .i64 k, .bool p, .int .i64 l, .int .i64 s, .int .i64 d, .slice a n cap]

/-- a slice of entries -/
def EntS (w : World) (a : Option Addr) (es : List (Int × Int × Int)) : Prop := es = [] ∨ ∃ B o, a = some ⟨B, o, none⟩ ∧ EntAt w B o es

theorem EntS.below {w w' : World} {K : Nat} {a : Option Addr} {es : List (Int × Int × Int)} (h : EntS w a es) (hb : Below K w w') (hK : w.heap.size ≤ K) : EntS w' a es := by
  rcases h with rfl | ⟨B, o, rfl, h⟩
  · exact .inl rfl
  · exact .inr ⟨B, o, rfl, h.below hb (by have := h.1; omega)⟩

theorem EntS.drew {w : World} {a : Option Addr} {es : List (Int × Int × Int)} (h : EntS w a es) : EntS w.drew a es := h

theorem entCheck_any {a : Option Addr} {es : List (Int × Int × Int)} (cap : Nat) (leaf : Bool) (w : World) (hn : es.length ≤ 100000) (hE : EntS w a es) :
    Calls Try.prog 47 #[.slice a es.length cap, .bool leaf] w fun e w' => e = .returned (.bool (rowOk es leaf)) ∧ Below w.heap.size w w' := by
  rcases hE with rfl | ⟨B, o, rfl, h⟩
  · exact entCheck_none a cap leaf w
  · exact entCheck_some B o cap es leaf w hn h

theorem entRow_any {a : Option Addr} {es : List (Int × Int × Int)} (cap : Nat) (leaf : Bool) (w : World) (hn : es.length ≤ 100000) (hE : EntS w a es) :
    Calls Try.prog 48 #[.slice a es.length cap, .bool leaf] w fun e w' => e = .returned (.bool (rowOk es leaf)) ∧ Below w.heap.size w w' := by
  rcases hE with rfl | ⟨B, o, rfl, h⟩
  · exact entRow_none a cap leaf w
  · exact entRow_some B o cap es leaf w hn h

/-- an int of 64 bits -/
def i64B (z : Int) : Prop := -9223372036854775808 ≤ z ∧ z ≤ 9223372036854775807

section
variable {H : Type} {enc : TypeId × Value → H} {P : Program} {w : World} {base : Nat} {spare : Nat → Bool} {held : Bool}

theorem trod_i64 {t : TypeId} {fuel : Nat} {v : Value} {x : DataW H × List MemPlace} (ht : P.underlying t = some (.int .i64)) (h : DataW.trod enc P w base spare held fuel t [v] = some x) : ∃ n, v = .int .i64 n ∧ i64B n := by
  obtain ⟨n, e, _, hw⟩ := DataW.trod_int ht h
  have := bounds_i64 hw
  exact ⟨n, by simpa using e, this.1, this.2⟩

theorem trod_boolv {t : TypeId} {fuel : Nat} {v : Value} {x : DataW H × List MemPlace} (ht : P.underlying t = some .bool) (h : DataW.trod enc P w base spare held fuel t [v] = some x) : ∃ b, v = .bool b := by
  obtain ⟨b, e, _⟩ := DataW.trod_bool ht h
  exact ⟨b, by simpa using e⟩

theorem spot_of_cell {w : World} {a : Addr} {v : Value} (h : w.cell? a = some v) : a = ⟨a.block, a.off, none⟩ ∧ a.block < w.heap.size := by
  obtain ⟨b, o, sp⟩ := a
  unfold World.cell? at h
  have hl : b < w.heap.size := by
    rcases Nat.lt_or_ge b w.heap.size with h' | h'
    · exact h'
    · simp [Array.getElem?_eq_none h'] at h
  refine ⟨?_, hl⟩
  cases sp with
  | none => rfl
  | some s =>
    cases hh : w.heap[b]? with
    | none => simp [hh] at h
    | some o' => cases o' <;> simp [hh] at h

theorem add_off (b o i : Nat) : (⟨b, o, none⟩ : Addr).add i = ⟨b, o + i, none⟩ := by
  unfold Addr.add
  by_cases c : i = 0
  · subst c; rfl
  · simp [c]

/-- a slice of structs of three ints -/
theorem trod_ents {t e : TypeId} {f0 f1 f2 : Field} {fuel : Nat} {cs : List Value} {x : DataW H × List MemPlace} (ht : P.underlying t = some (.slice e)) (he : P.underlying e = some (.struct #[f0, f1, f2]))
    (hone : oneCellFields P #[f0, f1, f2] = true) (hC : P.cellsOf e = 3) (h0 : P.underlying f0.type = some (.int .i64)) (h1 : P.underlying f1.type = some (.int .i64)) (h2 : P.underlying f2.type = some (.int .i64))
    (h : DataW.trod enc P w base spare held fuel t cs = some x) :
    ∃ a cap es, cs = [.slice a es.length cap] ∧ es.length ≤ cap ∧ cap ≤ maxLen ∧ EntS w a es ∧ (∀ y ∈ es, i64B y.1 ∧ i64B y.2.1 ∧ i64B y.2.2) := by
  rcases open_slice ht h with ⟨rfl, _⟩ | ⟨a, len, cap, m, n, D, Pl, rfl, hb, hl, hm, hmm, rfl, hx⟩
  · exact ⟨none, 0, [], rfl, Nat.le_refl _, by simp, .inl rfl, fun y hy => by cases hy⟩
  · have hlm : len ≤ m := by rw [hmm]; split <;> omega
    have each : ∀ i, i < len → ∃ q : Int × Int × Int, w.cell? (a.add (i * 3)) = some (.int .i64 q.1) ∧ w.cell? (a.add (i * 3 + 1)) = some (.int .i64 q.2.1) ∧ w.cell? (a.add (i * 3 + 2)) = some (.int .i64 q.2.2) ∧ i64B q.1 ∧ i64B q.2.1 ∧ i64B q.2.2 := by
      intro i hi
      obtain ⟨cs', g1, g2⟩ := hx i (by omega)
      rw [hC] at g1
      obtain ⟨_, hlen, hcell⟩ := World.cells?_some g1
      obtain ⟨xs, k, hk, hxy, _, hxl, hf⟩ := DataW.trod_struct he g2
      obtain ⟨o0, k0⟩ := hone_of hone 0 f0 rfl
      obtain ⟨o1, k1⟩ := hone_of hone 1 f1 rfl
      obtain ⟨o2, k2⟩ := hone_of hone 2 f2 rfl
      match xs, hxl, cs', hlen with
      | [y0, y1, y2], _, [v0, v1, v2], _ =>
        have q0 := hf 0 f0 rfl
        have q1 := hf 1 f1 rfl
        have q2 := hf 2 f2 rfl
        simp [o0, o1, o2, k0, k1, k2] at q0 q1 q2
        clear g1 g2
        have e0 := hcell 0 (by omega)
        have e1 := hcell 1 (by omega)
        have e2 := hcell 2 (by omega)
        rw [add_add] at e0 e1 e2
        obtain ⟨n0, rfl, b0⟩ := trod_i64 h0 q0
        obtain ⟨n1, rfl, b1⟩ := trod_i64 h1 q1
        obtain ⟨n2, rfl, b2⟩ := trod_i64 h2 q2
        exact ⟨(n0, n1, n2), by simpa using e0, by simpa using e1, by simpa using e2, b0, b1, b2⟩
    obtain ⟨q, hq⟩ := choose_lt each
    have hlen : ((List.range len).map q).length = len := by simp
    refine ⟨some a, cap, (List.range len).map q, by rw [hlen], by rw [hlen]; exact hl, hm, ?_, ?_⟩
    · by_cases hz : len = 0
      · subst hz; exact .inl rfl
      · obtain ⟨e0, _⟩ := hq 0 (by omega)
        rw [Nat.zero_mul] at e0
        have e0' : w.cell? a = some (.int .i64 (q 0).1) := e0
        obtain ⟨ea, hlt⟩ := spot_of_cell e0'
        refine .inr ⟨a.block, a.off, by rw [← ea], hlt, fun i hi => ?_⟩
        rw [hlen] at hi
        obtain ⟨c0, c1, c2, _⟩ := hq i hi
        rw [ea, add_off] at c0 c1 c2
        simp only [List.getElem_map, List.getElem_range]
        exact ⟨c0, c1, c2⟩
    · intro y hy
      simp only [List.mem_map, List.mem_range] at hy
      obtain ⟨i, hi, rfl⟩ := hy
      exact (hq i hi).2.2.2

theorem open_agg6 {r : Reach} {b0 : Nat} {t : TypeId} {f0 f1 f2 f3 f4 f5 : Field} {v : Value} {d : DataW H} {p : List MemPlace} (hs : P.underlying t = some (.struct #[f0, f1, f2, f3, f4, f5])) (hone : oneCellFields P #[f0, f1, f2, f3, f4, f5] = true) (hC : P.cellsOf t = 6)
    (hv : Value.okWide P w r b0 t v) (h : DataW.Trod enc P w base spare held t v d p) :
    ∃ (v0 v1 v2 v3 v4 v5 : Value) (y0 y1 y2 y3 y4 y5 : DataW H × List MemPlace) (n : Nat), v = .agg #[v0, v1, v2, v3, v4, v5] ∧
      DataW.trod enc P w base spare held n f0.type [v0] = some y0 ∧ DataW.trod enc P w base spare held n f1.type [v1] = some y1 ∧ DataW.trod enc P w base spare held n f2.type [v2] = some y2 ∧ DataW.trod enc P w base spare held n f3.type [v3] = some y3 ∧ DataW.trod enc P w base spare held n f4.type [v4] = some y4 ∧ DataW.trod enc P w base spare held n f5.type [v5] = some y5 := by
  obtain ⟨cs, rfl, hsz⟩ := okWide_struct hs hv
  obtain ⟨l⟩ := cs
  match l, hsz.trans hC with
  | [c0, c1, c2, c3, c4, c5], _ =>
    obtain ⟨fuel, hf⟩ := h
    obtain ⟨xs, n, _, hx, _, hlen, hg⟩ := DataW.trod_struct hs hf
    obtain ⟨o0, k0⟩ := hone_of hone 0 f0 rfl
    obtain ⟨o1, k1⟩ := hone_of hone 1 f1 rfl
    obtain ⟨o2, k2⟩ := hone_of hone 2 f2 rfl
    obtain ⟨o3, k3⟩ := hone_of hone 3 f3 rfl
    obtain ⟨o4, k4⟩ := hone_of hone 4 f4 rfl
    obtain ⟨o5, k5⟩ := hone_of hone 5 f5 rfl
    match xs, hlen with
    | [y0, y1, y2, y3, y4, y5], _ =>
      exact ⟨c0, c1, c2, c3, c4, c5, y0, y1, y2, y3, y4, y5, n, rfl, by simpa [Value.cells, o0, k0] using hg 0 f0 rfl, by simpa [Value.cells, o1, k1] using hg 1 f1 rfl, by simpa [Value.cells, o2, k2] using hg 2 f2 rfl, by simpa [Value.cells, o3, k3] using hg 3 f3 rfl, by simpa [Value.cells, o4, k4] using hg 4 f4 rfl, by simpa [Value.cells, o5, k5] using hg 5 f5 rfl⟩
end

theorem got_ino {W : World} {v : Value} (h : Got Try.prog W 24 v) :
    ∃ k p l s d a cap es, v = iv k p l s d a es.length cap ∧ i64B k ∧ i64B l ∧ i64B s ∧ i64B d ∧ es.length ≤ cap ∧ cap ≤ maxLen ∧ EntS W a es ∧ (∀ y ∈ es, i64B y.1 ∧ i64B y.2.1 ∧ i64B y.2.2) := by
  obtain ⟨base, H, enc, d, ps, h1, h2, _⟩ := h
  obtain ⟨v0, v1, v2, v3, v4, v5, y0, y1, y2, y3, y4, y5, n, rfl, g0, g1, g2, g3, g4, g5⟩ := open_agg6 Try.underlying24 (by kernel_rfl) (by kernel_rfl) h1 h2
  obtain ⟨k, rfl, b0⟩ := trod_i64 Try.underlying3 g0
  obtain ⟨p, rfl⟩ := trod_boolv Try.underlying4 g1
  obtain ⟨l, rfl, b2⟩ := trod_i64 Try.underlying3 g2
  obtain ⟨s, rfl, b3⟩ := trod_i64 Try.underlying3 g3
  obtain ⟨d, rfl, b4⟩ := trod_i64 Try.underlying3 g4
  obtain ⟨a, cap, es, e5, c1, c2, c3, c4⟩ := trod_ents Try.underlying22 Try.underlying26 (by kernel_rfl) (by kernel_rfl) Try.underlying3 Try.underlying3 Try.underlying3 g5
  obtain rfl : v5 = .slice a es.length cap := by simpa using e5
  exact ⟨k, p, l, s, d, a, cap, es, rfl, b0, b2, b3, b4, c1, c2, c3, c4⟩

end Go.Proofs.Ytdeemaafngehoaa
