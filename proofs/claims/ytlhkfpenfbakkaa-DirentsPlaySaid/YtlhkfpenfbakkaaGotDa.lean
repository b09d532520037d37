/- A list of acts on a block that came in. -/
import Derived.Test.YtlhkfpenfbakkaaGotAct
import Derived.Test.YtlhkfpenfbakkaaGotDes
set_option linter.unusedVariables false
set_option linter.unusedSimpArgs false
set_option maxRecDepth 100000
namespace Go.Proofs.Ytlhkfpenfbakkaa
open Go.RowKit Go.Joins Go.ChangeShapes Go.WideShapes Go.Deep

/-- an act: an entry, or a name that is taken away -/
structure Da where
  d : De
  out : Bool

def Da.v (x : Da) : Value × Value × Value := (.string x.d.nm, .int .i64 x.d.ino, .bool x.out)
instance : Inhabited Da := ⟨⟨⟨⟨#[]⟩, 0⟩, false⟩⟩

section
variable {H : Type} {enc : TypeId × Value → H} {P : Program} {w : World} {base : Nat} {spare : Nat → Bool} {held : Bool}
/-- a slice of structs of a struct of two cells and one cell -/
theorem trod_nest {t e : TypeId} {f0 f1 g0 g1 : Field} {fuel : Nat} {cs : List Value} {x : DataW H × List MemPlace} {α : Type} [Inhabited α] (g : α → Value × Value × Value) (Q : α → Prop) (ht : P.underlying t = some (.slice e)) (he : P.underlying e = some (.struct #[f0, f1]))
    (ho0 : f0.offset = 0) (ho1 : f1.offset = 2) (hc0 : P.cellsOf f0.type = 2) (hc1 : P.cellsOf f1.type = 1) (hg : P.underlying f0.type = some (.struct #[g0, g1]))
    (hone : oneCellFields P #[g0, g1] = true) (hC : P.cellsOf e = 3)
    (hel : ∀ n m v0 v1 v2 y0 y1 y2, DataW.trod enc P w base spare held n g0.type [v0] = some y0 → DataW.trod enc P w base spare held n g1.type [v1] = some y1 → DataW.trod enc P w base spare held m f1.type [v2] = some y2 → ∃ z : α, (v0, v1, v2) = g z ∧ Q z)
    (h : DataW.trod enc P w base spare held fuel t cs = some x) :
    ∃ a cap zs, cs = [.slice a (List.length zs) cap] ∧ zs.length ≤ cap ∧ cap ≤ maxLen ∧ Val3 w a (zs.map g) ∧ (∀ z ∈ zs, Q z) ∧ (a = none → cap = 0) := by
  rcases open_slice ht h with ⟨rfl, _⟩ | ⟨a, len, cap, m, n, D, Pl, rfl, hb, hl, hm, hmm, rfl, hx⟩
  · exact ⟨none, 0, [], rfl, Nat.le_refl _, by simp, .inl rfl, (fun y hy => by cases hy), fun _ => rfl⟩
  · have hlm : len ≤ m := by rw [hmm]; split <;> omega
    have each : ∀ i, i < len → ∃ z : α, w.cell? (a.add (i * 3)) = some (g z).1 ∧ w.cell? (a.add (i * 3 + 1)) = some (g z).2.1 ∧ w.cell? (a.add (i * 3 + 2)) = some (g z).2.2 ∧ Q z := by
      intro i hi
      obtain ⟨cs', g1', g2⟩ := hx i (by omega)
      rw [hC] at g1'
      obtain ⟨_, hlen, hcell⟩ := World.cells?_some g1'
      obtain ⟨xs, k, hk, hxy, _, hxl, hf⟩ := DataW.trod_struct he g2
      match xs, hxl, cs', hlen with
      | [y0, y1], _, [v0, v1, v2], _ =>
        have q0 := hf 0 f0 rfl
        have q1 := hf 1 f1 rfl
        rw [ho0, hc0] at q0
        rw [ho1, hc1] at q1
        simp at q0 q1
        clear g1' g2
        have e0 := hcell 0 (by omega)
        have e1 := hcell 1 (by omega)
        have e2 := hcell 2 (by omega)
        rw [add_add] at e0 e1 e2
        obtain ⟨xs2, k2, _, _, _, hxl2, hf2⟩ := DataW.trod_struct hg q0
        obtain ⟨o0, p0⟩ := hone_of hone 0 g0 rfl
        obtain ⟨o1, p1⟩ := hone_of hone 1 g1 rfl
        match xs2, hxl2 with
        | [u0, u1], _ =>
          have r0 := hf2 0 g0 rfl
          have r1 := hf2 1 g1 rfl
          simp [o0, o1, p0, p1] at r0 r1
          obtain ⟨z, hz, hQ⟩ := hel _ _ _ _ _ _ _ _ r0 r1 q1
          refine ⟨z, ?_, ?_, ?_, hQ⟩
          · rw [← hz]; simpa using e0
          · rw [← hz]; simpa using e1
          · rw [← hz]; simpa using e2
    obtain ⟨q, hq⟩ := choose_lt each
    have hlen : ((List.range len).map q).length = len := by simp
    refine ⟨some a, cap, (List.range len).map q, by rw [hlen], by rw [hlen]; exact hl, hm, ?_, ?_, fun h => by cases h⟩
    · by_cases hz : len = 0
      · subst hz; exact .inl rfl
      · obtain ⟨e0, _⟩ := hq 0 (by omega)
        rw [Nat.zero_mul] at e0
        have e0' : w.cell? a = some (g (q 0)).1 := e0
        obtain ⟨ea, hlt⟩ := spot_of_cell e0'
        refine .inr ⟨a.block, a.off, by rw [← ea], hlt, fun i v hv => ?_⟩
        have hi : i < len := by
          have := (List.getElem?_eq_some_iff.1 hv).1
          simpa using this
        obtain ⟨c0, c1, c2, _⟩ := hq i hi
        rw [ea, add_addr] at c0 c1 c2
        have : v = g (q i) := by
          simp [hi] at hv
          exact hv.symm
        subst this
        exact ⟨c0, c1, c2⟩
    · intro z hz
      obtain ⟨i, hi, rfl⟩ := List.mem_map.1 hz
      exact (hq i (List.mem_range.1 hi)).2.2.2
end

theorem got_dacts {W : World} {v : Value} (h : Got Try.prog W 42 v) :
    ∃ a cap, ∃ l : List Da, v = .slice a l.length cap ∧ Val3 W a (l.map Da.v) ∧ (∀ z ∈ l, z.d.nm.size ≤ maxLen ∧ i64B z.d.ino) := by
  obtain ⟨base, H, enc, d, ps, h1, h2, _⟩ := h
  obtain ⟨a, len, cap, rfl⟩ := okWide_slice Try.underlying42 h1
  obtain ⟨fuel, hf⟩ := h2
  obtain ⟨a', cap', l, e, _, _, hV, hQ, _⟩ := trod_nest Da.v (fun z => z.d.nm.size ≤ maxLen ∧ i64B z.d.ino) Try.underlying42 Try.underlying45 (by kernel_rfl) (by kernel_rfl) (by kernel_rfl) (by kernel_rfl) Try.underlying25 (by kernel_rfl) (by kernel_rfl)
    (fun n m v0 v1 v2 y0 y1 y2 q0 q1 q2 => by
      obtain ⟨s, rfl, hs⟩ := trod_str Try.underlying9 q0
      obtain ⟨z, rfl, hz⟩ := trod_i64 Try.underlying3 q1
      obtain ⟨b, rfl⟩ := trod_boolv Try.underlying4 q2
      exact ⟨⟨⟨s, z⟩, b⟩, rfl, hs, hz⟩) hf
  simp [Value.cells] at e
  obtain ⟨e1, e2, e3⟩ := e
  subst e1 e3
  exact ⟨a, cap, l, by rw [e2], hV, hQ⟩

theorem da_cells {w : World} {a : Option Addr} {l : List Da} {k : Nat} {x : Da} (h : Val3 w a (l.map Da.v)) (hx : l[k]? = some x) : ∃ B o, a = some ⟨B, o, none⟩ ∧ B < w.heap.size ∧ w.cell? ⟨B, o + k * 3, none⟩ = some (.string x.d.nm) ∧ w.cell? ⟨B, o + k * 3 + 1, none⟩ = some (.int .i64 x.d.ino) ∧ w.cell? ⟨B, o + k * 3 + 2, none⟩ = some (.bool x.out) := by
  rcases h with h | ⟨B, o, e, hb, h⟩
  · have := (List.getElem?_eq_some_iff.1 hx).1
    have h2 := congrArg List.length h
    simp at h2
    rw [h2] at this
    simp at this
  · obtain ⟨c0, c1, c2⟩ := h k x.v (by rw [List.getElem?_map, hx]; rfl)
    exact ⟨B, o, e, hb, c0, c1, c2⟩

end Go.Proofs.Ytlhkfpenfbakkaa
