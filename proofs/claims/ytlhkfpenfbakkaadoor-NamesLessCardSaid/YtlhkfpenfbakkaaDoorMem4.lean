/- Rows that the call owns: appends of none, and what an append leaves. No function in sight. -/
import Derived.Test.YtlhkfpenfbakkaaDoorMem3
import Derived.Test.YtlhkfpenfbakkaaDoorSl
import Derived.Laws.OwnMore
set_option linter.unusedVariables false
set_option linter.unusedSimpArgs false
namespace Go.Proofs.YtlhkfpenfbakkaaDoor
open Go Go.RowKit

theorem own_full4 {w : World} {base : Nat} {e : TypeId} {size : Nat} {v : Value} {n : Nat} {xs : List Value} (h : w.ownsRow base e size v n xs) (hn : 0 < n) : ∃ g cap, v = .slice (some ⟨g, 0, none⟩) n cap ∧ base ≤ g ∧ n ≤ cap ∧ RowAt w g xs := by
  rcases h.2 with ⟨_, h2⟩ | ⟨g, cap, cur, rfl, hg, hh, hc, r⟩
  · omega
  · exact ⟨g, cap, rfl, hg, hc, rowAt_own h h.1 (h.lt g rfl).2⟩

theorem step_append_none4 {P : Program} {ops : Array Oper} {o : Oper} {a : Act} {w : World} {K : Act → World → Prop} {Q : Exit → Act → World → Prop} {E : Prop}
    (hg : o.guard = none) (s x : Operand) (t : TypeId) (hop : o.op = Op.call { callee := Callee.builtin Builtin.append, args := #[s, x], argTypes := #[t, t] })
    (base : Nat) (e : TypeId) (i : TypeInfo) (size : Nat) (ht : P.underlying t = some (.slice e)) (hi : P.info? e = some i)
    (v : Value) (n : Nat) (xs : List Value) (hs : a.eval s = v) (hown : w.ownsRow base e size v n xs) (hx : a.eval x = .slice none 0 0)
    (hK : K (a.put o.dst v) w) :
    if Region.wanted o (yielded ops a.tmps) = true then Oper.wp P o a w K Q else E := by
  have hw : Region.wanted o (yielded ops a.tmps) = true := by simp [Region.wanted, hg]
  rw [if_pos hw]
  have hrun := run_append_owned_none (w := w) (P := P) base t o.type e i size ht hi v n xs hown
  unfold Oper.wp
  simp [execOp, hop, resolve, invoke, builtin, hs, hx, hrun, Result.andThen]
  exact hK

theorem grown_below4 {w0 w w' : World} {row : Option Nat} {base : Nat} (h : Below base w0 w) (hg : w.grownBy w' row) (hr : ∀ k, row = some k → base ≤ k) (hB : base ≤ w.heap.size) : Below base w0 w' :=
  h.trans ⟨hg.os, hg.tape, hg.output, hg.size, fun k hk => hg.block k (by omega) (fun e => by have := hr k e.symm; omega)⟩

theorem row_news4 {w : World} {g : Nat} {xs : List Value} (h : RowAt w g xs) : ∀ j u, xs[j]? = some u → w.cell? ((⟨g, 0, none⟩ : Addr).add j) = some u := by
  intro j u hj
  have hl : j < xs.length := by
    rcases Nat.lt_or_ge j xs.length with c | c
    · exact c
    · rw [List.getElem?_eq_none c] at hj; cases hj
  rw [addr_add, Nat.zero_add, h.cell j hl, hj]

end Go.Proofs.YtlhkfpenfbakkaaDoor
