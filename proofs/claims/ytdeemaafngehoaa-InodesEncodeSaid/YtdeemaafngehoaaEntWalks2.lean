/- Walks: may entries be, and are they in order? -/
import Derived.Test.YtdeemaafngehoaaEntWalks
import Derived.Handy
import Derived.BigQuiet
import Derived.Deep.QuietTactic
set_option linter.unusedVariables false
set_option linter.unusedSimpArgs false
set_option maxRecDepth 100000
namespace Go.Proofs.Ytdeemaafngehoaa
open Go.RowKit Go.Joins

/-- the entries that a slice holds -/
def EntAt (w : World) (B o : Nat) (es : List (Int × Int × Int)) : Prop :=
  B < w.heap.size ∧ ∀ i (h : i < es.length), w.cell? ⟨B, o + i * 3, none⟩ = some (.int .i64 es[i].1) ∧ w.cell? ⟨B, o + i * 3 + 1, none⟩ = some (.int .i64 es[i].2.1) ∧ w.cell? ⟨B, o + i * 3 + 2, none⟩ = some (.int .i64 es[i].2.2)

theorem EntAt.below {w w' : World} {B o K : Nat} {es : List (Int × Int × Int)} (h : EntAt w B o es) (hb : Below K w w') (hK : B < K) : EntAt w' B o es := by
  have hs : w'.heap[B]? = w.heap[B]? := hb.block B hK
  refine ⟨by have := h.1; have := hb.size; omega, fun i hi => ?_⟩
  obtain ⟨a, b, c⟩ := h.2 i hi
  unfold World.cell? at *
  simp only [hs]
  exact ⟨a, b, c⟩

/-- an entry behind the one ahead of it -/
def stepOk (es : List (Int × Int × Int)) (leaf : Bool) (i : Nat) : Bool :=
  match es[i]? with
  | none => true
  | some x => entOk x.1 x.2.1 x.2.2 leaf && (decide (i = 0) || match es[i - 1]? with
    | none => true
    | some p => decide (p.1 < x.1) && decide (p.1 + p.2.2 ≤ x.1))

def rowOk (es : List (Int × Int × Int)) (leaf : Bool) : Bool := (List.range es.length).all (stepOk es leaf)

theorem rowOk_no {es : List (Int × Int × Int)} {leaf : Bool} {k : Nat} (hk : k < es.length) (h : stepOk es leaf k = false) : rowOk es leaf = false := by
  rw [rowOk, List.all_eq_false]
  exact ⟨k, List.mem_range.2 hk, by simp [h]⟩

theorem rowOk_yes {es : List (Int × Int × Int)} {leaf : Bool} (h : ∀ k < es.length, stepOk es leaf k = true) : rowOk es leaf = true := by
  rw [rowOk, List.all_eq_true]
  exact fun k hk => h k (List.mem_range.1 hk)

theorem entOk_range {l p n : Int} {leaf : Bool} (h : entOk l p n leaf = true) : 0 ≤ l ∧ l ≤ 2047 ∧ 0 ≤ n ∧ n ≤ 4096 := by
  cases leaf
  · have := entOk_node.1 h; omega
  · have := entOk_leaf.1 h; omega

set_option maxHeartbeats 2000000 in
theorem entCheck_some (B o cap : Nat) (es : List (Int × Int × Int)) (leaf : Bool) (w : World) (hn : es.length ≤ 100000) (hE : EntAt w B o es) :
    Calls Try.prog 47 #[.slice (some ⟨B, o, none⟩) es.length cap, .bool leaf] w fun e w' => e = .returned (.bool (rowOk es leaf)) ∧ Below w.heap.size w w' := by
  go_enter Try.func47, Try.ntmps47
  go_wp2_with fail
  go_loopw [10] (fun j wr => ∃ k : Nat, k ≤ es.length ∧ j = .int .i64 k ∧ (∀ m < k, stepOk es leaf m = true) ∧ Below w.heap.size w wr) (fun j _ => es.length - (intOf j).toNat)
  case atStart =>
    exact ⟨0, by omega, rfl, fun m hm => absurd hm (by omega), Below.refl _ _⟩
  case round =>
    obtain ⟨k, hk, rfl, hall, B1⟩ := hrel
    have HA := Lib.hid hall
    clear hall
    by_cases hlt : k < es.length
    · obtain ⟨hB, hcs⟩ := hE.below B1 hE.1
      obtain ⟨c0, c1, c2⟩ := hcs k hlt
      obtain ⟨x, hx⟩ : ∃ x, es[k]? = some x := ⟨_, List.getElem?_eq_getElem hlt⟩
      have hx2 : es[k] = x := by rw [List.getElem?_eq_getElem hlt] at hx; exact Option.some.inj hx
      rw [hx2] at c0 c1 c2
      have HCS := Lib.hid hcs
      clear hcs
      go_wp2_with fail
      refine (may_any _ _ _ _ _).mono ?_
      rintro e w4 ⟨rfl, hb4⟩
      have B4 := below_chain (B1.alloc B1.size _) hb4 (B1.alloc B1.size _).size
      have hr4 := (rowAt_alloc wr #[.int .i64 x.1, .int .i64 x.2.1, .int .i64 x.2.2] 26).below hb4 (rowAt_alloc wr _ _).lt
      have q0 := hr4.cell 0 (by simp)
      have q1 := hr4.cell 1 (by simp)
      have q2 := hr4.cell 2 (by simp)
      have hBl : B < (wr.alloc (.cells #[.int .i64 x.1, .int .i64 x.2.1, .int .i64 x.2.2] 26)).heap.size := by simp; omega
      by_cases hm : entOk x.1 x.2.1 x.2.2 leaf = true
      · rcases Nat.eq_zero_or_pos k with rfl | hpos
        · rw [hm]
          go_wp2_with fail
          go_roundw
          case rel =>
            refine ⟨1, by omega, by go_num, ?_, B4⟩
            intro m hm2
            obtain rfl : m = 0 := by omega
            simp [stepOk, hx, hm]
          case measure => simp [intOf]; omega
        · obtain ⟨k, rfl⟩ : ∃ k', k = k' + 1 := ⟨k - 1, by omega⟩
          obtain ⟨p, hp⟩ : ∃ p, es[k]? = some p := ⟨_, List.getElem?_eq_getElem (by omega)⟩
          have hp2 : es[k] = p := by rw [List.getElem?_eq_getElem (by omega)] at hp; exact Option.some.inj hp
          obtain ⟨d0, d1, d2⟩ := ((hE.below B1 hE.1).below ((Below.refl _ _).alloc (Nat.le_refl _) (.cells #[.int .i64 x.1, .int .i64 x.2.1, .int .i64 x.2.2] 26)) hB).below hb4 hBl |>.2 k (by omega)
          rw [hp2] at d0 d1 d2
          have hpm : entOk p.1 p.2.1 p.2.2 leaf = true := by
            have := HA.out k (by omega)
            simp only [stepOk, hp, Bool.and_eq_true] at this
            exact this.1
          have r1 := entOk_range hm
          have r2 := entOk_range hpm
          have ek : (k : Int) + 1 - 1 = (k : Int) := by omega
          obtain ⟨s1, s2⟩ := r1
          obtain ⟨s3, s4⟩ := r2
          rw [hm]
          have hst : stepOk es leaf (k + 1) = (decide (p.1 < x.1) && decide (p.1 + p.2.2 ≤ x.1)) := by
            simp [stepOk, hx, hp, hm]
          have HS := Lib.hid hst
          clear hst
          by_cases g1 : x.1 - p.1 ≤ 0
          · go_wp2_with fail
            go_quiet (fail)
            go_wp2_with fail
            go_ret
            refine ⟨congrArg Ending.returned (congrArg Value.bool (rowOk_no hlt ?_).symm), ?_⟩
            · rw [HS.out]; simp; omega
            · first | exact B4 | exact B4.trans (below_le (below_draws _ _ _) B4.size)
          · by_cases g2 : x.1 - p.1 < p.2.2
            · go_wp2_with fail
              go_quiet (fail)
              go_wp2_with fail
              go_ret
              refine ⟨congrArg Ending.returned (congrArg Value.bool (rowOk_no hlt ?_).symm), ?_⟩
              · rw [HS.out]; simp; omega
              · first | exact B4 | exact B4.trans (below_le (below_draws _ _ _) B4.size)
            · go_wp2_with fail
              go_quiet (fail)
              go_wp2_with fail
              go_roundw
              case rel =>
                refine ⟨k + 2, by omega, by go_num, ?_, ?_⟩
                · intro m hm2
                  by_cases c : m < k + 1
                  · exact HA.out m c
                  · obtain rfl : m = k + 1 := by omega
                    rw [HS.out]; simp; omega
                · first | exact B4 | exact B4.trans (below_le (below_draws _ _ _) B4.size)
              case measure => simp [intOf]; omega
      · rw [show entOk x.1 x.2.1 x.2.2 leaf = false by simpa using hm]
        go_wp2_with fail
        go_ret
        refine ⟨congrArg Ending.returned (congrArg Value.bool (rowOk_no hlt ?_).symm), B4⟩
        simp [stepOk, hx, show entOk x.1 x.2.1 x.2.2 leaf = false by simpa using hm]
    · obtain rfl : k = es.length := by omega
      go_wp2_with fail
      go_ret
      exact ⟨congrArg Ending.returned (congrArg Value.bool (rowOk_yes HA.out).symm), B1⟩

theorem entCheck_none (a : Option Addr) (cap : Nat) (leaf : Bool) (w : World) :
    Calls Try.prog 47 #[.slice a 0 cap, .bool leaf] w fun e w' => e = .returned (.bool true) ∧ Below w.heap.size w w' := by
  go_enter Try.func47, Try.ntmps47
  go_wp2_with fail
  refine wp_loop_rounds 1 ?_
  rw [rounds_succ]
  go_wp2_with fail
  go_ret
  exact ⟨rfl, Below.refl _ _⟩

end Go.Proofs.Ytdeemaafngehoaa
