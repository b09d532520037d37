/- Memory: rows that the call owns, and what make gives. -/
import Derived.Test.YtfgnemddamebaaaMem
import Derived.Laws.OwnMore
import Derived.OwnWalk
set_option linter.unusedVariables false
namespace Go.Proofs.Ytfgnemddamebaaa
open Go Go.RowKit

/-- bytes 0 -/
def zerosB (n : Nat) : ByteArray := ⟨(List.replicate n (0 : UInt8)).toArray⟩
theorem zerosB_size (n : Nat) : (zerosB n).size = n := by simp [zerosB, ByteArray.size]

section
variable {w : World} {P : Program}

/-- an owned slice's row -/
theorem rowAt_own {base : Nat} {e : TypeId} {size g n cap : Nat} {xs : List Value} (h : w.ownsRow base e size (.slice (some ⟨g, 0, none⟩) n cap) n xs) (hx : xs.length = n * size) (hlt : g < w.heap.size) : RowAt w g xs := by
  have hc := fun j (hj : j < xs.length) => h.cellAt j (by rw [← hx]; exact hj)
  have hz := fun j => h.frozenAt j
  cases hb : w.heap[g]? with
  | none => simp at hb; omega
  | some o =>
    cases o with
    | cells C e' fr =>
      obtain ⟨lo, hi⟩ := fr
      refine ⟨C, e', lo, hi, hb, fun i hi' => ?_, fun i hi' c => ?_⟩
      · have := hc i hi'
        simpa [World.cell?, hb] using this
      · have := hz i
        simp [World.frozen?, hb] at this
        omega
    | _ =>
      cases xs with
      | nil => exact absurd (h.2.elim (fun c => by simp at c) (fun ⟨_, _, _, hv, _, hh, _⟩ => by simp at hv; obtain ⟨rfl, _⟩ := hv; rw [hb] at hh; cases hh)) id
      | cons x r =>
        have := hc 0 (by simp)
        simp [World.cell?, hb] at this

/-- make([]byte, n) -/
theorem make_bytes (w : World) (t e : TypeId) (i : TypeInfo) (ht : P.underlying t = some (.slice e)) (hi : P.info? e = some i) (hz : i.zero = some (.int .u8 0)) (hs : i.size = 1) (hb : i.bytes = 1) (n : Nat) (hn : n ≤ 140737488355328) :
    ∃ W1, (Instr.makeSlice t (.int .i64 (n : Int)) (.int .i64 (n : Int))).run P w = .ok (.slice (some ⟨w.heap.size, 0, none⟩) n n) W1 ∧ Below w.heap.size w W1 ∧ RowAt W1 w.heap.size (bcells (List.replicate n 0)) := by
  obtain ⟨W1, h1, h2, h3⟩ := run_make_full (P := P) w w.heap.size t e i (.int .u8 0) 1 ht hi hz hs .i64 .i64 n (by rw [hb]; omega) (by unfold maxLen; omega) (Nat.le_refl _)
  refine ⟨W1, h1, ⟨h3.os, h3.tape, h3.output, h3.size, fun k hk => h3.block k hk (by simp)⟩, ?_⟩
  have e1 : (madeCells (Value.int .u8 0).cells (n * 1)).toList = bcells (List.replicate n 0) := by
    rw [Nat.mul_one]
    show (madeCells #[.int .u8 0] n).toList = _
    rw [toList_madeCells_one]
    simp [bcells]
  rw [e1] at h2
  refine rowAt_own h2 (by simp [bcells]) ?_
  have := World.ownsRow.lt h2 w.heap.size rfl
  exact this.2
end

end Go.Proofs.Ytfgnemddamebaaa
