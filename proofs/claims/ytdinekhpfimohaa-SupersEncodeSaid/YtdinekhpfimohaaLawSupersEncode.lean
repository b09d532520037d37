/- For every input the law glissadelaw10.SupersEncode returns true. -/
import Derived.Deep.RegionHeld3
import Derived.Test.YtdinekhpfimohaaSupersAlive
import Derived.Test.YtdinekhpfimohaaFrame
set_option linter.unusedVariables false
set_option linter.unusedSimpArgs false
set_option maxRecDepth 100000
namespace Go.Proofs.Ytdinekhpfimohaa
open Go.RowKit Go.Joins

theorem sup_keep {w0 W W' : World} {K B : Nat} {b l m c i g f t n v : Int} (h : W.cell? ⟨K, 0, none⟩ = some (.int .i64 b) ∧ W.cell? ⟨K, 1, none⟩ = some (.int .i64 l) ∧ W.cell? ⟨K, 2, none⟩ = some (.int .i64 m) ∧ W.cell? ⟨K, 3, none⟩ = some (.int .i64 c) ∧ W.cell? ⟨K, 4, none⟩ = some (.int .i64 i) ∧ W.cell? ⟨K, 5, none⟩ = some (.int .i64 g) ∧ W.cell? ⟨K, 6, none⟩ = some (.int .i64 f) ∧ W.cell? ⟨K, 7, none⟩ = some (.int .i64 t) ∧ W.cell? ⟨K, 8, none⟩ = some (.int .i64 n) ∧ W.cell? ⟨K, 9, none⟩ = some (.int .i64 v) ∧ RowAt W (K) [.int .i64 b, .int .i64 l, .int .i64 m, .int .i64 c, .int .i64 i, .int .i64 g, .int .i64 f, .int .i64 t, .int .i64 n, .int .i64 v] ∧ Below B w0 W ∧ B ≤ W.heap.size) (hb : Below W.heap.size W W') : W'.cell? ⟨K, 0, none⟩ = some (.int .i64 b) ∧ W'.cell? ⟨K, 1, none⟩ = some (.int .i64 l) ∧ W'.cell? ⟨K, 2, none⟩ = some (.int .i64 m) ∧ W'.cell? ⟨K, 3, none⟩ = some (.int .i64 c) ∧ W'.cell? ⟨K, 4, none⟩ = some (.int .i64 i) ∧ W'.cell? ⟨K, 5, none⟩ = some (.int .i64 g) ∧ W'.cell? ⟨K, 6, none⟩ = some (.int .i64 f) ∧ W'.cell? ⟨K, 7, none⟩ = some (.int .i64 t) ∧ W'.cell? ⟨K, 8, none⟩ = some (.int .i64 n) ∧ W'.cell? ⟨K, 9, none⟩ = some (.int .i64 v) ∧ RowAt W' (K) [.int .i64 b, .int .i64 l, .int .i64 m, .int .i64 c, .int .i64 i, .int .i64 g, .int .i64 f, .int .i64 t, .int .i64 n, .int .i64 v] ∧ Below B w0 W' ∧ B ≤ W'.heap.size := by
  obtain ⟨_, _, _, _, _, _, _, _, _, _, hr, hB, hs⟩ := h
  have hr' := hr.below hb hr.lt
  obtain ⟨c0, c1, c2, c3, c4, c5, c6, c7, c8, c9⟩ := sup_cells hr'
  exact ⟨c0, c1, c2, c3, c4, c5, c6, c7, c8, c9, hr', below_chain hB hb hs, Nat.le_trans hs hb.size⟩

theorem sup_ends {w0 W : World} {K B : Nat} {b l m c i g f t n v : Int} (h : W.cell? ⟨K, 0, none⟩ = some (.int .i64 b) ∧ W.cell? ⟨K, 1, none⟩ = some (.int .i64 l) ∧ W.cell? ⟨K, 2, none⟩ = some (.int .i64 m) ∧ W.cell? ⟨K, 3, none⟩ = some (.int .i64 c) ∧ W.cell? ⟨K, 4, none⟩ = some (.int .i64 i) ∧ W.cell? ⟨K, 5, none⟩ = some (.int .i64 g) ∧ W.cell? ⟨K, 6, none⟩ = some (.int .i64 f) ∧ W.cell? ⟨K, 7, none⟩ = some (.int .i64 t) ∧ W.cell? ⟨K, 8, none⟩ = some (.int .i64 n) ∧ W.cell? ⟨K, 9, none⟩ = some (.int .i64 v) ∧ RowAt W (K) [.int .i64 b, .int .i64 l, .int .i64 m, .int .i64 c, .int .i64 i, .int .i64 g, .int .i64 f, .int .i64 t, .int .i64 n, .int .i64 v] ∧ Below B w0 W ∧ B ≤ W.heap.size) : RowAt W K [.int .i64 b, .int .i64 l, .int .i64 m, .int .i64 c, .int .i64 i, .int .i64 g, .int .i64 f, .int .i64 t, .int .i64 n, .int .i64 v] ∧ Below B w0 W := by
  obtain ⟨_, _, _, _, _, _, _, _, _, _, hr, hB, hs⟩ := h
  exact ⟨hr, hB⟩

set_option maxHeartbeats 1000000 in
theorem supEnc_core (w : World) (b l m c i g f t n v : Int) (Q : ByteArray) (e0 : Int) (ck : Bool)
    (HC1 : RowKit.Hid (∀ W, Calls Try.prog 15 #[sv b l m c i g f t n v] W fun e w' => e = .returned (.tuple #[.string Q, .int .i64 e0]) ∧ Below W.heap.size W w'))
    (HC2 : RowKit.Hid (∀ W, Calls Try.prog 16 #[sv b l m c i g f t n v] W fun e w' => e = .returned (.tuple #[.string Q, .int .i64 e0]) ∧ Below W.heap.size W w'))
    (HC3 : RowKit.Hid (∀ W, Calls Try.prog 17 #[sv b l m c i g f t n v] W fun e w' => e = .returned (.bool ck) ∧ Below W.heap.size W w'))
    (HC4 : RowKit.Hid (∀ W, Calls Try.prog 18 #[sv b l m c i g f t n v] W fun e w' => e = .returned (.bool ck) ∧ Below W.heap.size W w')) :
    Calls Try.prog 3 #[sv b l m c i g f t n v] w fun e w' => e = .returned (.bool true) ∧ Below w.heap.size w w' := by
  have hck : (ck == ck) = true := by simp
  go_enter Try.func3, Try.ntmps3
  go_wp2_with fail
  refine (HC1.out _).mono ?_
  rintro e w1 ⟨rfl, hb1⟩
  have B0 := (Below.refl w.heap.size w).alloc (Nat.le_refl _) (.cells #[.int .i64 b, .int .i64 l, .int .i64 m, .int .i64 c, .int .i64 i, .int .i64 g, .int .i64 f, .int .i64 t, .int .i64 n, .int .i64 v] 23)
  have B1 := below_chain B0 hb1 B0.size
  have hr1 := (rowAt_alloc w #[.int .i64 b, .int .i64 l, .int .i64 m, .int .i64 c, .int .i64 i, .int .i64 g, .int .i64 f, .int .i64 t, .int .i64 n, .int .i64 v] 23).below hb1 (rowAt_alloc w _ _).lt
  have hl1 := hr1.lt
  obtain ⟨c0, c1, c2, c3, c4, c5, c6, c7, c8, c9⟩ := sup_cells hr1
  go_wp2_with fail
  refine (HC2.out _).mono ?_
  rintro e w2 ⟨rfl, hb2⟩
  have B2 := below_chain B1 hb2 B1.size
  have hr2 := hr1.below hb2 hr1.lt
  clear c0 c1 c2 c3 c4 c5 c6 c7 c8 c9
  have hl2 := hr2.lt
  obtain ⟨c0, c1, c2, c3, c4, c5, c6, c7, c8, c9⟩ := sup_cells hr2
  go_wp2_with fail
  have B2s : w.heap.size ≤ w2.heap.size := B2.size
  go_region_held3 (fun w' => w'.cell? ⟨w.heap.size, 0, none⟩ = some (.int .i64 b) ∧ w'.cell? ⟨w.heap.size, 1, none⟩ = some (.int .i64 l) ∧ w'.cell? ⟨w.heap.size, 2, none⟩ = some (.int .i64 m) ∧ w'.cell? ⟨w.heap.size, 3, none⟩ = some (.int .i64 c) ∧ w'.cell? ⟨w.heap.size, 4, none⟩ = some (.int .i64 i) ∧ w'.cell? ⟨w.heap.size, 5, none⟩ = some (.int .i64 g) ∧ w'.cell? ⟨w.heap.size, 6, none⟩ = some (.int .i64 f) ∧ w'.cell? ⟨w.heap.size, 7, none⟩ = some (.int .i64 t) ∧ w'.cell? ⟨w.heap.size, 8, none⟩ = some (.int .i64 n) ∧ w'.cell? ⟨w.heap.size, 9, none⟩ = some (.int .i64 v) ∧ RowAt w' (w.heap.size) [.int .i64 b, .int .i64 l, .int .i64 m, .int .i64 c, .int .i64 i, .int .i64 g, .int .i64 f, .int .i64 t, .int .i64 n, .int .i64 v] ∧ Below w.heap.size w w' ∧ w.heap.size ≤ w'.heap.size) (first | (exact sup_keep ⟨c0, c1, c2, c3, c4, c5, c6, c7, c8, c9, hr2, B2, B2s⟩ ((Below.refl _ _).drew)) | (exact sup_keep (by assumption) (by assumption)))
    (first | (go_at_call 17; refine (HC3.out _).mono ?_; rintro e w' ⟨rfl, hb'⟩) | (go_at_call 18; refine (HC4.out _).mono ?_; rintro e w' ⟨rfl, hb'⟩) | (go_at_call 19; refine (alive10 _).mono ?_; rintro e w' ⟨rfl, hb'⟩))
  obtain ⟨hr4, B4⟩ := sup_ends (W := w') (by assumption)
  go_wp2_with fail
  go_ret
  exact ⟨rfl, B4⟩

theorem walk_supersEncode (w : World) (b l m c i g f t n v : Int) (_ : ∀ z ∈ [b, l, m, c, i, g, f, t, n, v], -9223372036854775808 ≤ z ∧ z ≤ 9223372036854775807) :
    Calls Try.prog 3 #[sv b l m c i g f t n v] w fun e w' => e = .returned (.bool true) ∧ Below w.heap.size w w' := by
  have H3 := Lib.hid (check_any b l m c i g f t n v)
  have H4 := Lib.hid (rcheck_any b l m c i g f t n v)
  by_cases h : superOk b l m c i g f t n v = true
  · exact supEnc_core w b l m c i g f t n v _ 0 _ (Lib.hid (fun W => enc_yes b l m c i g f t n v W h)) (Lib.hid (fun W => renc_yes b l m c i g f t n v W h)) H3 H4
  · exact supEnc_core w b l m c i g f t n v _ 2 _ (Lib.hid (fun W => enc_no b l m c i g f t n v W (by simpa using h))) (Lib.hid (fun W => renc_no b l m c i g f t n v W (by simpa using h))) H3 H4

/-! ### the frame (printed by mklaw.py) -/

set_option maxRecDepth 100000 in
theorem lifted_supersEncode (os : Os) (started : os.Started) (H : Type) (enc : TypeId × Value → H) :
    ReturnsInHanded {} Try.checked os 3 .any (Rows.supersEncodeSpec.pre6 enc Try.prog Try.f3 Rows.supersEncodeRow.domain false) (Rows.supersEncodeSpec.post enc Try.prog Try.f3 false true false false) := by
  refine law_step (C := Try.checked) (tb := 4) (by kernel_rfl) (by kernel_rfl) started (by kernel_rfl) Try.func3 rfl Try.underlying4 rfl ?_ ?_
    (ChangeSpec.witness6 (enc := enc) (C := Try.checked) false ⟨#[], #[.agg #[.int .i64 0, .int .i64 0, .int .i64 0, .int .i64 0, .int .i64 0, .int .i64 0, .int .i64 0, .int .i64 0, .int .i64 0, .int .i64 0]], []⟩ 8 (by kernel_rfl) (by kernel_rfl) (by kernel_rfl) (by kernel_rfl)) ?_
  · intro ds hl
    match ds, hl with
    | [d0], _ => rfl
  · intro t ht
    rw [show Try.f3.params.toList = [23] from by rw [Try.params3]] at ht
    simp only [List.mem_cons, List.not_mem_nil, or_false] at ht
    rcases ht with rfl
    · exact ⟨by kernel_rfl, of_decide_eq_true (by kernel_rfl)⟩
  · intro W args hG
    rw [show Try.f3.params.toList = [23] from by rw [Try.params3]] at hG
    obtain ⟨v0, rfl, g0⟩ := gotAll_args1 hG
    obtain ⟨zs0, rfl, zl0, zh0⟩ := got_flat (k := .i64) (n := 10) (by kernel_rfl) g0
    obtain ⟨z0_0, z0_1, z0_2, z0_3, z0_4, z0_5, z0_6, z0_7, z0_8, z0_9, rfl⟩ : ∃ z0_0 z0_1 z0_2 z0_3 z0_4 z0_5 z0_6 z0_7 z0_8 z0_9, zs0 = [z0_0, z0_1, z0_2, z0_3, z0_4, z0_5, z0_6, z0_7, z0_8, z0_9] := by
      match zs0, zl0 with
      | [z0_0, z0_1, z0_2, z0_3, z0_4, z0_5, z0_6, z0_7, z0_8, z0_9], _ => exact ⟨z0_0, z0_1, z0_2, z0_3, z0_4, z0_5, z0_6, z0_7, z0_8, z0_9, rfl⟩
    exact walk_supersEncode W z0_0 z0_1 z0_2 z0_3 z0_4 z0_5 z0_6 z0_7 z0_8 z0_9 (fun z hz => has_i64 (zh0 z hz))

theorem supersEncode_over : Rows.supersEncodeRow.holds Try.pinned (OpenSpec.ofChange Rows.supersEncodeSpec) :=
  OpenClaim.holds_of_wide 3 Try.f3 rfl rfl rfl rfl rfl rfl rfl ⟨rfl, rfl, rfl, rfl, rfl⟩ rfl rfl rfl rfl rfl (by kernel_rfl) Try.func3 (by kernel_rfl)
    (of_decide_eq_true (by kernel_rfl)) (by unfold Func.isWrapper; first | (rw [if_pos (by decide +kernel)]; kernel_rfl) | (rw [if_neg (by decide +kernel)]; exact ⟨rfl, rfl⟩))
    (fun os started H enc _ => lifted_supersEncode os started H enc)

theorem supersEncode_holds : Rows.SupersEncodeSaid := supersEncode_over
#print axioms supersEncode_holds

end Go.Proofs.Ytdinekhpfimohaa
