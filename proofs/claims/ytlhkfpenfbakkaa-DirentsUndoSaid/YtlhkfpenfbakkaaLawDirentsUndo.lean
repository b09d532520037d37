/- For every input the law glissadelaw12.DirentsUndo returns true; ... -/
import Derived.BigQuiet
import Derived.Deep.QuietTactic
import Derived.Deep.RegionHeld3
import Derived.Test.YtlhkfpenfbakkaaPlainUndo
import Derived.Test.YtlhkfpenfbakkaaGotDes
import Derived.Test.YtlhkfpenfbakkaaFrame
set_option linter.unusedVariables false
set_option linter.unusedSimpArgs false
set_option maxRecDepth 100000
namespace Go.Proofs.Ytlhkfpenfbakkaa
open Go.RowKit Go.Joins

theorem packB_small (l : List De) : (packB l).size ≤ 128 := by
  by_cases h : packE l = 0
  · rw [packB_size h]; omega
  · rw [packB, if_neg h]; show 0 ≤ 128; omega
theorem insert_small (b : ByteArray) (x : De) : (insertP b x).1.size ≤ 128 := by
  rw [insertP]
  cases parseP b with
  | none => show 0 ≤ 128; omega
  | some l => exact packB_small _
theorem remove_small {b : ByteArray} (nm : ByteArray) (h : b.size ≤ 2000) : (removeP b nm).1.size ≤ 2000 := by
  rw [removeP]
  cases parseP b with
  | none => exact h
  | some l =>
    show (match placeP l nm with | some i => (packB (l.take i ++ l.drop (i + 1)), true) | none => (b, false)).1.size ≤ 2000
    cases placeP l nm with
    | none => exact h
    | some i => exact Nat.le_trans (packB_small _) (by omega)

theorem ug_end {w W : World} {x : De} (h : W.cell? ⟨w.heap.size, 0, none⟩ = some (.string x.nm) ∧ W.cell? ⟨w.heap.size, 1, none⟩ = some (.int .i64 x.ino) ∧ UG w W x) : Below w.heap.size w W := h.2.2.below
structure UD (w W : World) (x : De) (P q : Nat) (n : Int) : Prop where
  ug : UG w W x
  c0 : W.cell? ⟨P, q, none⟩ = some (.string x.nm)
  c1 : W.cell? ⟨P, q + 1, none⟩ = some (.int .i64 n)
  lt : P < W.heap.size
theorem UD.keep {w W W' : World} {x : De} {P q : Nat} {n : Int} (h : UD w W x P q n) (hb : Below W.heap.size W W') : UD w W' x P q n :=
  ⟨h.ug.keep hb, by rw [hb.cell (p := ⟨P, q, none⟩) h.lt]; exact h.c0, by rw [hb.cell (p := ⟨P, q + 1, none⟩) h.lt]; exact h.c1, by have := hb.size; have := h.lt; omega⟩
theorem UD.cells {w W : World} {x : De} {P q : Nat} {n : Int} (h : UD w W x P q n) : W.cell? ⟨w.heap.size, 0, none⟩ = some (.string x.nm) ∧ W.cell? ⟨P, q, none⟩ = some (.string x.nm) ∧ W.cell? ⟨P, q + 1, none⟩ = some (.int .i64 n) ∧ UD w W x P q n :=
  ⟨h.ug.row.cell 0 (by simp), h.c0, h.c1, h⟩
theorem ud_keep {w W W' : World} {x : De} {P q : Nat} {n : Int} (h : W.cell? ⟨w.heap.size, 0, none⟩ = some (.string x.nm) ∧ W.cell? ⟨P, q, none⟩ = some (.string x.nm) ∧ W.cell? ⟨P, q + 1, none⟩ = some (.int .i64 n) ∧ UD w W x P q n) (hb : Below W.heap.size W W') :
    W'.cell? ⟨w.heap.size, 0, none⟩ = some (.string x.nm) ∧ W'.cell? ⟨P, q, none⟩ = some (.string x.nm) ∧ W'.cell? ⟨P, q + 1, none⟩ = some (.int .i64 n) ∧ UD w W' x P q n := (h.2.2.2.keep hb).cells
theorem ud_end {w W : World} {x : De} {P q : Nat} {n : Int} (h : W.cell? ⟨w.heap.size, 0, none⟩ = some (.string x.nm) ∧ W.cell? ⟨P, q, none⟩ = some (.string x.nm) ∧ W.cell? ⟨P, q + 1, none⟩ = some (.int .i64 n) ∧ UD w W x P q n) : Below w.heap.size w W := h.2.2.2.ug.below

set_option maxHeartbeats 32000000 in
theorem undo_yes (w : World) (s : ByteArray) (x : De) (h1 : ¬ 2000 < s.size) (h2 : ¬ 2000 < x.nm.size) (he : (insertP s x).2 = 0) :
    Calls Try.prog 8 #[.string s, x.agg] w fun e w' => e = .returned (.bool true) ∧ Below w.heap.size w w' := by
  rw [agg_cells]
  have B0 : Below w.heap.size w (w.alloc (.cells #[.string x.nm, .int .i64 x.ino] 25)) := (Below.refl _ _).alloc (Nat.le_refl _) _
  have h1' : ¬ (2000 : Int) < (s.size : Int) := by omega
  have h2' : ¬ (2000 : Int) < (x.nm.size : Int) := by omega
  have HU0 := Lib.hid (ug_start w x)
  have HIns := Lib.hid (fun W => insert_any s x W (by omega))
  rw [agg_cells] at HIns
  have HUn := Lib.hid (fun h => undo_in (b := s) (x := x) h)
  have HSm := insert_small s x
  clear B0
  go_enter Try.func8, Try.ntmps8
  go_wp2_with fail
  refine (HIns.out _).mono ?_
  rintro e w1 ⟨rfl, hb1⟩
  have HU1 := HU0.out.keep hb1
  clear hb1 HIns HU0
  obtain ⟨q1, q2, q3⟩ := HUn.out he
  rw [he]
  have HRm := Lib.hid (fun W => remove_any (insertP s x).1 x.nm W (by omega))
  have HFd := Lib.hid (fun W => find_any (insertP s x).1 x.nm W (by omega))
  have HR1 := Lib.hid (fun W b (h : b = (insertP s x).1) => room_any b W (by subst h; omega))
  have HR0 := Lib.hid (fun W b (h : b = s) => room_any b W (by subst h; omega))
  have HR1' : Hid (∀ (W : World) (b : ByteArray), b = (insertP s x).1 → Calls Try.prog 18 #[.string b] W fun e w' => e = .returned (.int .i64 (roomP s - 5 - (x.nm.size : Int))) ∧ Below W.heap.size W w') := fun W b h => (HR1.out W b h).mono fun e w' h' => ⟨by rw [h'.1, h, q3], h'.2⟩
  have HR0' : Hid (∀ (W : World) (b : ByteArray), b = s → Calls Try.prog 18 #[.string b] W fun e w' => e = .returned (.int .i64 (roomP s)) ∧ Below W.heap.size W w') := fun W b h => (HR0.out W b h).mono fun e w' h' => ⟨by rw [h'.1, h], h'.2⟩
  clear HR1 HR0
  rw [q1] at HRm
  rw [q2] at HFd
  have q4 := roomP_range s
  clear q1 q2 q3 HUn he
  generalize (insertP s x).1 = T at *
  generalize roomP s = rm at *
  obtain ⟨q5, q6⟩ := q4
  have hw1 : IntKind.i64.wrap (rm - 5) = rm - 5 := IntWalk.i64_in _ (by omega)
  have hw2 : IntKind.i64.wrap (rm - 5 - (x.nm.size : Int)) = rm - 5 - (x.nm.size : Int) := IntWalk.i64_in _ (by omega)
  obtain ⟨c0, c1, _⟩ := HU1.cells
  go_wp2_with fail
  refine (HRm.out _).mono ?_
  rintro e w2 ⟨rfl, hb2⟩
  have HU2 := HU1.keep hb2
  clear hb2 HRm HU1 c0 c1
  obtain ⟨c0, c1, _⟩ := HU2.cells
  go_wp2_with fail
  refine (HFd.out _).mono ?_
  rintro e w3 ⟨rfl, hb3⟩
  have HU3 := Lib.hid (HU2.keep hb3)
  clear hb3 HFd HU2 c0 c1
  have c0 := HU3.out.cells.1
  have c1 := HU3.out.cells.2.1
  go_wp2_with fail
  go_region_held3 (fun W => W.cell? ⟨w.heap.size, 0, none⟩ = some (.string x.nm) ∧ W.cell? ⟨w.heap.size, 1, none⟩ = some (.int .i64 x.ino) ∧ UG w W x) (first | (exact HU3.out.cells) | (exact ug_keep HU3.out.cells ((Below.refl _ _).drew)) | (exact ug_keep (by assumption) (by assumption)) | assumption)
    (first | (go_at_call 18; refine (HR1'.out _ _ ?_).mono ?_; (focus (exact rfl)); rintro e w5 ⟨rfl, hb5⟩) | (go_at_call 18; refine (HR0'.out _ _ ?_).mono ?_; (focus (exact rfl)); rintro e w5 ⟨rfl, hb5⟩) | (go_at_call 13; refine (alive12 _).mono ?_; rintro e w6 ⟨rfl, hb6⟩))
  all_goals
    have hE := ug_end (by assumption)
    go_wp2_with fail
    go_ret
    exact ⟨rfl, hE⟩

set_option maxHeartbeats 32000000 in
theorem undo_no (w : World) (s : ByteArray) (x : De) (h1 : ¬ 2000 < s.size) (h2 : ¬ 2000 < x.nm.size) (he : (insertP s x).2 ≠ 0) :
    Calls Try.prog 8 #[.string s, x.agg] w fun e w' => e = .returned (.bool true) ∧ Below w.heap.size w w' := by
  rw [agg_cells]
  have B0 : Below w.heap.size w (w.alloc (.cells #[.string x.nm, .int .i64 x.ino] 25)) := (Below.refl _ _).alloc (Nat.le_refl _) _
  have h1' : ¬ (2000 : Int) < (s.size : Int) := by omega
  have h2' : ¬ (2000 : Int) < (x.nm.size : Int) := by omega
  have HU0 := Lib.hid (ug_start w x)
  have HIns := Lib.hid (fun W => insert_any s x W (by omega))
  rw [agg_cells] at HIns
  have HUn := Lib.hid (fun h => undo_in (b := s) (x := x) h)
  have HSm := insert_small s x
  clear B0
  go_enter Try.func8, Try.ntmps8
  go_wp2_with fail
  refine (HIns.out _).mono ?_
  rintro e w1 ⟨rfl, hb1⟩
  have HU1 := HU0.out.keep hb1
  clear hb1 HIns HU0
  have he' : ((insertP s x).2 == 0) = false := by simpa using he
  clear HUn HSm
  generalize (insertP s x).1 = T at *
  generalize (insertP s x).2 = pe at *
  obtain ⟨c0, c1, _⟩ := HU1.cells
  have HFd := Lib.hid (fun W => find_any s x.nm W (by omega))
  have HOut := Lib.hid (fun n h => undo_out (b := s) (nm := x.nm) (n := n) h)
  have HRm := Lib.hid (fun W => remove_any s x.nm W (by omega))
  have HSz := remove_small x.nm (b := s) (by omega)
  have HPs := Lib.hid (fun W => parse_any s W (by omega))
  unfold ParseP at HPs
  go_wp2_with fail
  refine (HFd.out _).mono ?_
  rintro e w2 ⟨rfl, hb2⟩
  have HU2 := HU1.keep hb2
  clear hb2 HFd HU1 c0 c1
  rcases hf : findP s x.nm with ⟨n, ok⟩
  cases ok with
  | false =>
    clear HOut HRm HPs hf
    go_wp2_with fail
    refine (alive12 _).mono ?_
    rintro e w3 ⟨rfl, hb3⟩
    have HU3 := HU2.keep hb3
    go_wp2_with fail
    go_ret
    exact ⟨rfl, HU3.below⟩
  | true =>
    obtain ⟨q1, q2, l, m, m', q3, q4, q5, q6⟩ := HOut.out n hf
    have HIn := Lib.hid (fun W => insert_any (removeP s x.nm).1 ⟨x.nm, n⟩ W (by omega))
    have HQ3 := Lib.hid q3
    have HQ4 := Lib.hid q4
    have HQ6 := Lib.hid q6
    have HPu := Lib.hid (fun W => parse_any (insertP (removeP s x.nm).1 ⟨x.nm, n⟩).1 W (by have := insert_small (removeP s x.nm).1 ⟨x.nm, n⟩; omega))
    unfold ParseP at HPu
    rw [agg_cells] at HIn
    rw [q1] at HRm
    rw [q2] at HIn
    have hl : m'.length < m.length := by rw [q6]; simp
    have hm := (packE_ok.1 (parseP_ok q4).1).2.2.2
    have hml := len_many m
    have hlast : m[m'.length]? = some ⟨x.nm, n⟩ := by rw [q6]; simp
    have hmK : m.length = m'.length + 1 := by rw [q6]; simp
    have HLa := Lib.hid hlast
    clear HOut hf q1 q2 q3 q4 q6 hlast
    generalize (insertP (removeP s x.nm).1 ⟨x.nm, n⟩).1 = U at *
    generalize (removeP s x.nm).1 = V at *
    obtain ⟨c0, c1, _⟩ := HU2.cells
    go_wp2_with fail
    refine (HRm.out _).mono ?_
    rintro e w3 ⟨rfl, hb3⟩
    have HU3 := HU2.keep hb3
    clear hb3 HRm HU2 c0 c1
    obtain ⟨c0, c1, _⟩ := HU3.cells
    go_wp2_with fail
    refine (HIn.out _).mono ?_
    rintro e w4 ⟨rfl, hb4⟩
    have HU4 := HU3.keep hb4
    clear hb4 HIn HU3 c0 c1
    go_wp2_with fail
    refine (HPs.out _).mono ?_
    rintro e w5 ⟨h | ⟨h, _⟩, hb5⟩
    case inr => rw [HQ3.out] at h; cases h
    obtain ⟨l3, a3, cap3, h31, rfl, h33, h34⟩ := h
    rw [HQ3.out] at h31
    injection h31 with h31
    subst h31
    have HU5 := HU4.keep hb5
    rw [q5, hmK]
    clear hb5 HPs HU4 h33 h34 HQ3
    go_wp2_with fail
    refine (HPu.out _).mono ?_
    rintro e w6 ⟨h | ⟨h, _⟩, hb6⟩
    case inr => rw [HQ4.out] at h; cases h
    obtain ⟨l4, a4, cap4, h41, rfl, h43, h44⟩ := h
    rw [HQ4.out] at h41
    injection h41 with h41
    subst h41
    have HU6 := HU5.keep hb6
    obtain ⟨a', cap', hv, hnew, _, _⟩ := own_newd h44
    injection hv with hv1 _ hv3
    subst hv1 hv3
    obtain ⟨P, o, rfl, hP, d0, d1⟩ := de_cells hnew.vals HLa.out
    clear hb6 HPu HU5 h43 h44 HQ4 hnew HLa HQ6
    obtain ⟨c0, c1, _⟩ := HU6.cells
    have i0 : (m'.length : Int) ≤ 128 := by omega
    have i1 : (0 : Int) < (m'.length : Int) + 1 := by omega
    have i2 : (0 : Int) ≤ (m'.length : Int) := by omega
    have i5 : (m'.length : Int) < (m'.length : Int) + 1 := by omega
    have i6 : IntKind.i64.wrap ((m'.length : Int) + 1 - 1) = (m'.length : Int) := by rw [show (m'.length : Int) + 1 - 1 = (m'.length : Int) from by omega]; exact IntWalk.i64_in _ (by omega)
    have i7 : IntKind.i64.wrap (m'.length : Int) = (m'.length : Int) := IntWalk.i64_in _ (by omega)
    rw [hmK]
    clear hmK
    go_wp2_with fail
    have HUD := Lib.hid (UD.mk HU6 d0 d1 hP)
    clear HU6 hP
    go_region_held3 (fun W => W.cell? ⟨w.heap.size, 0, none⟩ = some (.string x.nm) ∧ W.cell? ⟨P, o + m'.length * 2, none⟩ = some (.string x.nm) ∧ W.cell? ⟨P, o + m'.length * 2 + 1, none⟩ = some (.int .i64 n) ∧ UD w W x P (o + m'.length * 2) n) (first | (exact HUD.out.cells) | (exact (HUD.out.keep ((Below.refl _ _).drew)).cells) | (exact ud_keep (by assumption) (by assumption)) | assumption)
      (first | (go_at_call 13; refine (alive12 _).mono ?_; rintro e w7 ⟨rfl, hb7⟩))
    have hE := ud_end (by assumption)
    go_wp2_with fail
    go_ret
    exact ⟨rfl, hE⟩

set_option maxHeartbeats 32000000 in
theorem walk_direntsUndo (w : World) (s : ByteArray) (hsz : s.size ≤ 140737488351232) (x : De) (hxn : x.nm.size ≤ maxLen) (hxi : i64B x.ino) :
    Calls Try.prog 8 #[.string s, x.agg] w fun e w' => e = .returned (.bool true) ∧ Below w.heap.size w w' := by
  rw [agg_cells]
  have B0 : Below w.heap.size w (w.alloc (.cells #[.string x.nm, .int .i64 x.ino] 25)) := (Below.refl _ _).alloc (Nat.le_refl _) _
  by_cases h1 : 2000 < s.size
  · have h1' : (2000 : Int) < (s.size : Int) := by omega
    go_enter Try.func8, Try.ntmps8
    go_wp2_with fail
    go_ret
    exact ⟨rfl, B0⟩
  have h1' : ¬ (2000 : Int) < (s.size : Int) := by omega
  by_cases h2 : 2000 < x.nm.size
  · have h2' : (2000 : Int) < (x.nm.size : Int) := by omega
    go_enter Try.func8, Try.ntmps8
    go_wp2_with fail
    go_ret
    exact ⟨rfl, B0⟩
  have h2' : ¬ (2000 : Int) < (x.nm.size : Int) := by omega
  by_cases he : (insertP s x).2 = 0
  · exact undo_yes w s x h1 h2 he
  · exact undo_no w s x h1 h2 he

/-! ### the frame (printed by mklaw.py) -/

set_option maxRecDepth 100000 in
theorem lifted_direntsUndo (os : Os) (started : os.Started) (H : Type) (enc : TypeId × Value → H) :
    ReturnsInHanded {} Try.checked os 8 .any (Rows.direntsUndoSpec.pre6 enc Try.prog Try.f8 Rows.direntsUndoRow.domain false) (Rows.direntsUndoSpec.post enc Try.prog Try.f8 false true false false) := by
  refine law_step (C := Try.checked) (tb := 4) (by kernel_rfl) (by kernel_rfl) started (by kernel_rfl) Try.func8 rfl Try.underlying4 rfl ?_ ?_
    (ChangeSpec.witness6 (enc := enc) (C := Try.checked) false ⟨#[], #[.string ByteArray.empty, .agg #[.string ByteArray.empty, .int .i64 0]], []⟩ 8 (by kernel_rfl) (by kernel_rfl) (by kernel_rfl) (by kernel_rfl)) ?_
  · intro ds hl
    match ds, hl with
    | [d0, d1], _ => rfl
  · intro t ht
    rw [show Try.f8.params.toList = [9, 25] from by rw [Try.params8]] at ht
    simp only [List.mem_cons, List.not_mem_nil, or_false] at ht
    rcases ht with rfl | rfl
    · exact ⟨by kernel_rfl, of_decide_eq_true (by kernel_rfl)⟩
    · exact ⟨by kernel_rfl, of_decide_eq_true (by kernel_rfl)⟩
  · intro W args hG
    rw [show Try.f8.params.toList = [9, 25] from by rw [Try.params8]] at hG
    obtain ⟨v0, v1, rfl, g0, g1⟩ := gotAll_args2 hG
    obtain ⟨a0, rfl, b0⟩ := got_string Try.underlying9 g0
    obtain ⟨x1, rfl, hs1, hi1⟩ := got_de g1
    exact walk_direntsUndo W a0 b0 x1 hs1 hi1

theorem direntsUndo_over : Rows.direntsUndoRow.holds Try.pinned (OpenSpec.ofChange Rows.direntsUndoSpec) :=
  OpenClaim.holds_of_wide 8 Try.f8 rfl rfl rfl rfl rfl rfl rfl ⟨rfl, rfl, rfl, rfl, rfl⟩ rfl rfl rfl rfl rfl (by kernel_rfl) Try.func8 (by kernel_rfl)
    (of_decide_eq_true (by kernel_rfl)) (by unfold Func.isWrapper; first | (rw [if_pos (by decide +kernel)]; kernel_rfl) | (rw [if_neg (by decide +kernel)]; exact ⟨rfl, rfl⟩))
    (fun os started H enc _ => lifted_direntsUndo os started H enc)

theorem direntsUndo_holds : Rows.DirentsUndoSaid := direntsUndo_over
#print axioms direntsUndo_holds

end Go.Proofs.Ytlhkfpenfbakkaa
