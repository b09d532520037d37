/- What is known of an inode that came in: a slice that is nil has no room. And appends onto rows of the call's own. -/
import Derived.Test.YtdeemaafngehoaaGotIno
import Derived.Test.YtdeemaafngehoaaInoWalks4
import Derived.Test.YtdeemaafngehoaaMem3
set_option linter.unusedVariables false
set_option linter.unusedSimpArgs false
set_option maxRecDepth 100000
namespace Go.Proofs.Ytdeemaafngehoaa
open Go.RowKit Go.Joins Go.ChangeShapes Go.WideShapes Go.Deep

section
variable {H : Type} {enc : TypeId × Value → H} {P : Program} {w : World} {base : Nat} {spare : Nat → Bool} {held : Bool}

/-- a slice of structs of three ints -/
theorem trod_ents2 {t e : TypeId} {f0 f1 f2 : Field} {fuel : Nat} {cs : List Value} {x : DataW H × List MemPlace} (ht : P.underlying t = some (.slice e)) (he : P.underlying e = some (.struct #[f0, f1, f2]))
    (hone : oneCellFields P #[f0, f1, f2] = true) (hC : P.cellsOf e = 3) (h0 : P.underlying f0.type = some (.int .i64)) (h1 : P.underlying f1.type = some (.int .i64)) (h2 : P.underlying f2.type = some (.int .i64))
    (h : DataW.trod enc P w base spare held fuel t cs = some x) :
    ∃ a cap es, cs = [.slice a es.length cap] ∧ es.length ≤ cap ∧ cap ≤ maxLen ∧ EntS w a es ∧ (∀ y ∈ es, i64B y.1 ∧ i64B y.2.1 ∧ i64B y.2.2) ∧ (a = none → cap = 0) := by
  rcases open_slice ht h with ⟨rfl, _⟩ | ⟨a, len, cap, m, n, D, Pl, rfl, hb, hl, hm, hmm, rfl, hx⟩
  · exact ⟨none, 0, [], rfl, Nat.le_refl _, by simp, .inl rfl, (fun y hy => by cases hy), fun _ => rfl⟩
  · have hlm : len ≤ m := by rw [hmm]; split <;> omega
    have each : ∀ i, i < len → ∃ q : Int × Int × Int, w.cell? (a.add (i * 3)) = some (.int .i64 q.1) ∧ w.cell? (a.add (i * 3 + 1)) = some (.int .i64 q.2.1) ∧ w.cell? (a.add (i * 3 + 2)) = some (.int .i64 q.2.2) ∧ i64B q.1 ∧ i64B q.2.1 ∧ i64B q.2.2 := by
      intro i hi
      obtain ⟨cs', g1, g2⟩ := hx i (by omega)
      rw [hC] at g1
      obtain ⟨_, hlen, hcell⟩ := World.cells?_some g1
      obtain ⟨xs, k, hk, hxy, _, hxl, hf⟩ := DataW.trod_struct he g2
      obtain ⟨o0, k0⟩ := hone_of hone 0 f0 rfl
      obtain ⟨o1, k1⟩ := hone_of hone 1 f1 rfl
      obtain ⟨o2, k2⟩ := hone_of hone 2 f2 rfl
      match xs, hxl, cs', hlen with
      | [y0, y1, y2], _, [v0, v1, v2], _ =>
        have q0 := hf 0 f0 rfl
        have q1 := hf 1 f1 rfl
        have q2 := hf 2 f2 rfl
        simp [o0, o1, o2, k0, k1, k2] at q0 q1 q2
        clear g1 g2
        have e0 := hcell 0 (by omega)
        have e1 := hcell 1 (by omega)
        have e2 := hcell 2 (by omega)
        rw [add_add] at e0 e1 e2
        obtain ⟨n0, rfl, b0⟩ := trod_i64 h0 q0
        obtain ⟨n1, rfl, b1⟩ := trod_i64 h1 q1
        obtain ⟨n2, rfl, b2⟩ := trod_i64 h2 q2
        exact ⟨(n0, n1, n2), by simpa using e0, by simpa using e1, by simpa using e2, b0, b1, b2⟩
    obtain ⟨q, hq⟩ := choose_lt each
    have hlen : ((List.range len).map q).length = len := by simp
    refine ⟨some a, cap, (List.range len).map q, by rw [hlen], by rw [hlen]; exact hl, hm, ?_, ?_, fun h => by cases h⟩
    · by_cases hz : len = 0
      · subst hz; exact .inl rfl
      · obtain ⟨e0, _⟩ := hq 0 (by omega)
        rw [Nat.zero_mul] at e0
        have e0' : w.cell? a = some (.int .i64 (q 0).1) := e0
        obtain ⟨ea, hlt⟩ := spot_of_cell e0'
        refine .inr ⟨a.block, a.off, by rw [← ea], hlt, fun i hi => ?_⟩
        rw [hlen] at hi
        obtain ⟨c0, c1, c2, _⟩ := hq i hi
        rw [ea, add_off] at c0 c1 c2
        simp only [List.getElem_map, List.getElem_range]
        exact ⟨c0, c1, c2⟩
    · intro y hy
      simp only [List.mem_map, List.mem_range] at hy
      obtain ⟨i, hi, rfl⟩ := hy
      exact (hq i hi).2.2.2

end

theorem got_ino2 {W : World} {v : Value} (h : Got Try.prog W 24 v) :
    ∃ k p l s d a cap es, v = iv k p l s d a es.length cap ∧ i64B k ∧ i64B l ∧ i64B s ∧ i64B d ∧ es.length ≤ cap ∧ cap ≤ maxLen ∧ EntS W a es ∧ (∀ y ∈ es, i64B y.1 ∧ i64B y.2.1 ∧ i64B y.2.2) ∧ (a = none → cap = 0) := by
  obtain ⟨base, H, enc, d, ps, h1, h2, _⟩ := h
  obtain ⟨v0, v1, v2, v3, v4, v5, y0, y1, y2, y3, y4, y5, n, rfl, g0, g1, g2, g3, g4, g5⟩ := open_agg6 Try.underlying24 (by kernel_rfl) (by kernel_rfl) h1 h2
  obtain ⟨k, rfl, b0⟩ := trod_i64 Try.underlying3 g0
  obtain ⟨p, rfl⟩ := trod_boolv Try.underlying4 g1
  obtain ⟨l, rfl, b2⟩ := trod_i64 Try.underlying3 g2
  obtain ⟨s, rfl, b3⟩ := trod_i64 Try.underlying3 g3
  obtain ⟨d, rfl, b4⟩ := trod_i64 Try.underlying3 g4
  obtain ⟨a, cap, es, e5, c1, c2, c3, c4, c5⟩ := trod_ents2 Try.underlying22 Try.underlying26 (by kernel_rfl) (by kernel_rfl) Try.underlying3 Try.underlying3 Try.underlying3 g5
  obtain rfl : v5 = .slice a es.length cap := by simpa using e5
  exact ⟨k, p, l, s, d, a, cap, es, rfl, b0, b2, b3, b4, c1, c2, c3, c4, c5⟩


theorem own_full {w : World} {base : Nat} {e : TypeId} {size : Nat} {v : Value} {n : Nat} {xs : List Value} (h : w.ownsRow base e size v n xs) (hn : 0 < n) : ∃ g cap, v = .slice (some ⟨g, 0, none⟩) n cap ∧ base ≤ g ∧ n ≤ cap ∧ RowAt w g xs := by
  rcases h.2 with ⟨_, h2⟩ | ⟨g, cap, cur, rfl, hg, hh, hc, r⟩
  · omega
  · exact ⟨g, cap, rfl, hg, hc, rowAt_own h h.1 (h.lt g rfl).2⟩

theorem step_append_none {P : Program} {ops : Array Oper} {o : Oper} {a : Act} {w : World} {K : Act → World → Prop} {Q : Exit → Act → World → Prop} {E : Prop}
    (hg : o.guard = none) (s x : Operand) (t : TypeId) (hop : o.op = Op.call { callee := Callee.builtin Builtin.append, args := #[s, x], argTypes := #[t, t] })
    (base : Nat) (e : TypeId) (i : TypeInfo) (size : Nat) (ht : P.underlying t = some (.slice e)) (hi : P.info? e = some i)
    (v : Value) (n : Nat) (xs : List Value) (hs : a.eval s = v) (hown : w.ownsRow base e size v n xs) (hx : a.eval x = .slice none 0 0)
    (hK : K (a.put o.dst v) w) :
    if Region.wanted o (yielded ops a.tmps) = true then Oper.wp P o a w K Q else E := by
  have hw : Region.wanted o (yielded ops a.tmps) = true := by simp [Region.wanted, hg]
  rw [if_pos hw]
  have hrun := run_append_owned_none (w := w) (P := P) base t o.type e i size ht hi v n xs hown
  unfold Oper.wp
  simp [execOp, hop, resolve, invoke, builtin, hs, hx, hrun, Result.andThen]
  exact hK

theorem ents_news2 {w : World} {ad : Addr} {es : List (Int × Int × Int)} (h : EntS w (some ad) es) : ∀ j u, (ecells es)[j]? = some u → w.cell? (ad.add j) = some u := by
  rcases h with rfl | ⟨B, o, e, h⟩
  · intro j u hj; cases hj
  · injection e with e
    subst e
    intro j u hj
    have hl := ecells_length es
    have hj' : j < (ecells es).length := by
      rcases Nat.lt_or_ge j (ecells es).length with c | c
      · exact c
      · rw [List.getElem?_eq_none c] at hj; cases hj
    obtain ⟨a, b, c⟩ := ecells_at es (j / 3) (by omega)
    obtain ⟨a', b', c'⟩ := h.2 (j / 3) (by omega)
    rw [add_off]
    have hm : j % 3 = 0 ∨ j % 3 = 1 ∨ j % 3 = 2 := by omega
    rcases hm with hm | hm | hm
    · have e : j = j / 3 * 3 := by omega
      rw [e] at hj
      rw [a] at hj
      rw [e, a', ← hj]
    · have e : j = j / 3 * 3 + 1 := by omega
      rw [e] at hj
      rw [b] at hj
      rw [e, ← Nat.add_assoc, b', ← hj]
    · have e : j = j / 3 * 3 + 2 := by omega
      rw [e] at hj
      rw [c] at hj
      rw [e, ← Nat.add_assoc, c', ← hj]

theorem ecells_one2 (es : List (Int × Int × Int)) : ∀ u ∈ ecells es, u.oneCell' = true := by
  intro u hu
  simp only [ecells, List.mem_map] at hu
  obtain ⟨z, _, rfl⟩ := hu
  rfl

end Go.Proofs.Ytdeemaafngehoaa
