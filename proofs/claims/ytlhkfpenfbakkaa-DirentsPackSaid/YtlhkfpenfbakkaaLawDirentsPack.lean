/- For every input the law glissadelaw12.DirentsPack returns true; at most 100 entries; else it returns true at once. -/
import Derived.BigQuiet
import Derived.Deep.QuietTactic
import Derived.Deep.RegionHeld3
import Derived.Laws.AppendOwnNone
import Derived.Test.YtlhkfpenfbakkaaDirRef3
import Derived.Test.YtlhkfpenfbakkaaDirLaw
import Derived.Test.YtlhkfpenfbakkaaGotDesN
import Derived.Test.YtlhkfpenfbakkaaFrame
set_option linter.unusedVariables false
set_option linter.unusedSimpArgs false
set_option maxRecDepth 100000
namespace Go.Proofs.Ytlhkfpenfbakkaa
open Go.RowKit Go.Joins

theorem pk_tail {W : World} {g : Nat} {l : List De} {x y z u : Value} (h : RowAt W g (l.flatMap De.cells ++ [x, y, z, u])) : W.cell? ⟨g, l.length * 2 + 1, none⟩ = some y ∧ W.cell? ⟨g, (l.length + 1) * 2 + 1, none⟩ = some u := by
  have hl := decells_len l
  constructor
  · rw [h.cell _ (by rw [List.length_append, hl]; simp; try omega), List.getElem?_append_right (by omega), hl, show l.length * 2 + 1 - l.length * 2 = 1 by omega]
    rfl
  · rw [h.cell _ (by rw [List.length_append, hl]; simp; try omega), List.getElem?_append_right (by omega), hl, show (l.length + 1) * 2 + 1 - l.length * 2 = 3 by omega]
    rfl
theorem pk_news {W : World} {B o : Nat} {l : List De} (h : ∀ i d, l[i]? = some d → W.cell? ⟨B, o + i * 2, none⟩ = some (.string d.nm) ∧ W.cell? ⟨B, o + i * 2 + 1, none⟩ = some (.int .i64 d.ino)) : ∀ j u, (l.flatMap De.cells)[j]? = some u → W.cell? ((⟨B, o, none⟩ : Addr).add j) = some u := by
  intro j u hu
  have hj := (List.getElem?_eq_some_iff.1 hu).1
  rw [decells_len] at hj
  obtain ⟨d, hd⟩ : ∃ d, l[j / 2]? = some d := ⟨_, List.getElem?_eq_getElem (show j / 2 < l.length by omega)⟩
  obtain ⟨h1, h2⟩ := h _ d hd
  obtain ⟨c1, c2⟩ := decells_get l _ d hd
  rw [addr_add]
  rcases Nat.mod_two_eq_zero_or_one j with e | e
  · have e2 : j = j / 2 * 2 := by omega
    rw [e2] at hu ⊢
    rw [c1] at hu
    injection hu with hu
    subst hu
    exact h1
  · have e2 : j = j / 2 * 2 + 1 := by omega
    rw [e2] at hu ⊢
    rw [c2] at hu
    injection hu with hu
    subst hu
    exact h2
/-- what stands: the copy with its two entries behind; the list that came in; all below -/
def PkG (w W : World) (g : Nat) (a : Option Addr) (l : List De) : Prop := RowAt W g (l.flatMap De.cells ++ [.string ⟨#[]⟩, .int .i64 (-70), .string ⟨#[]⟩, .int .i64 (-71)]) ∧ ValD W a l ∧ Below w.heap.size w W
theorem PkG.keep {w W W' : World} {g : Nat} {a : Option Addr} {l : List De} (h : PkG w W g a l) (hb : Below W.heap.size W W') : PkG w W' g a l :=
  ⟨h.1.below hb h.1.lt, h.2.1.below hb (Nat.le_refl _), below_chain h.2.2 hb h.2.2.size⟩

set_option maxHeartbeats 8000000 in
theorem walk_direntsPack (w : World) (a : Option Addr) (cap : Nat) (l : List De) (hcl : l.length ≤ cap) (hcm : cap ≤ maxLen) (hV : ValD w a l) (hs : ∀ z ∈ l, z.nm.size ≤ maxLen ∧ i64B z.ino) (hnone : a = none → cap = 0) :
    Calls Try.prog 3 #[.slice a l.length cap] w fun e w' => e = .returned (.bool true) ∧ Below w.heap.size w w' := by
  have HGr := Lib.hid (great12 a cap l w (by omega) hV (fun d hd => (hs d hd).1))
  have HV := Lib.hid hV
  have B0 : Below w.heap.size w w := Below.refl _ _
  obtain ⟨i0, hi0, hz0, hz1, hz2⟩ := info_parts info_de
  have HI := Lib.hid (And.intro hi0 (And.intro hz0 (And.intro hz1 hz2)))
  clear hV hs hi0 hz0 hz1 hz2
  by_cases hbig : 100 < l.length
  · go_enter Try.func3, Try.ntmps3
    go_wp2_with fail
    refine HGr.out.mono ?_
    rintro e w1 ⟨⟨b, rfl, hb100⟩, rfl⟩
    cases b with
    | false => exact absurd (hb100 rfl) (by omega)
    | true =>
      clear hb100
      go_wp2_with fail
      go_ret
      exact ⟨rfl, B0⟩
  have hl : (l.length : Int) ≤ 100 := by omega
  obtain ⟨MC, hMC0⟩ : ∃ MC, MC = madeCells (Value.agg #[.string ByteArray.empty, .int .i64 0]).cells ((l.length + 2) * i0.size) := ⟨_, rfl⟩
  have hMC : MC.size = (l.length + 2) * 2 := by
    have := size_madeCells (Value.agg #[.string ByteArray.empty, .int .i64 0]).cells ((l.length + 2) * i0.size)
    rw [← hMC0, HI.out.2.2.1] at this
    exact this
  have hmk : ∀ W : World, (Instr.makeSlice 22 (.int .i64 0) (.int .i64 ((l.length : Int) + 2))).run Try.prog W = .ok (.slice (some ⟨W.heap.size, 0, none⟩) 0 (l.length + 2)) (W.alloc (.cells MC 25)) := by
    intro W
    have := run_makeSlice (w := W) (P := Try.prog) 22 25 i0 _ Try.underlying22 HI.out.1 HI.out.2.1 .i64 .i64 0 ((l.length : Int) + 2) (by omega) (by omega) (by rw [HI.out.2.2.1]; omega) (by rw [HI.out.2.2.2]; omega) (by omega)
    rw [show (((l.length : Int) + 2) : Int).toNat = l.length + 2 from (by omega), ← hMC0] at this
    exact this
  have HO : Hid ((w.alloc (.cells MC 25)).ownsRow w.heap.size 25 2 (.slice (some ⟨w.heap.size, 0, none⟩) 0 (l.length + 2)) 0 []) := World.ownsRow_made w MC (l.length + 2) (Nat.le_refl _) (by unfold maxLen; omega) hMC
  have hbA : Below w.heap.size w (w.alloc (.cells MC 25)) := B0.alloc (Nat.le_refl _) _
  have HB1 := Lib.hid hbA
  have HVA := Lib.hid (HV.out.below hbA (Nat.le_refl _))
  clear hMC hMC0 hbA
  have hw2 : IntKind.i64.wrap ((l.length : Int) + 2) = (l.length : Int) + 2 := IntWalk.i64_in _ (by omega)
  have hw1 : IntKind.i64.wrap ((l.length : Int) + 1) = (l.length : Int) + 1 := IntWalk.i64_in _ (by omega)
  cases a with
  | none =>
    obtain rfl : l = [] := by
      rcases HV.out with h | ⟨_, _, h, _⟩
      · exact h
      · cases h
    obtain rfl := hnone rfl
    have hmk2 : ∀ W : World, (Instr.makeSlice 22 (.int .i64 0) (.int .i64 2)).run Try.prog W = .ok (.slice (some ⟨W.heap.size, 0, none⟩) 0 2) (W.alloc (.cells MC 25)) := hmk
    clear hmk hw1 hw2
    go_enter Try.func3, Try.ntmps3
    go_wp2_with fail
    refine HGr.out.mono ?_
    rintro e w1 ⟨⟨b, rfl, hb100⟩, rfl⟩
    cases b with
    | true =>
      clear hb100
      go_wp2_with fail
      go_ret
      exact ⟨rfl, B0⟩
    | false =>
      clear hb100 HGr
      have HO2 : Hid ((w.alloc (.cells MC 25)).ownsRow w.heap.size 25 2 (.slice (some ⟨w.heap.size, 0, none⟩) 0 2) 0 []) := HO.out
      have B5 := HB1.out
      have HRw : Hid (RowAt ((w.alloc (.cells MC 25)).alloc (.cells #[.string ⟨#[]⟩, .int .i64 (-70), .string ⟨#[]⟩, .int .i64 (-71)] 25)) (w.heap.size + 1) [.string ⟨#[]⟩, .int .i64 (-70), .string ⟨#[]⟩, .int .i64 (-71)]) := by
        have := rowAt_alloc (w.alloc (.cells MC 25)) #[.string ⟨#[]⟩, .int .i64 (-70), .string ⟨#[]⟩, .int .i64 (-71)] 25
        rw [World.size_alloc] at this
        exact this
      go_wp2_with (at_builtin; refine wpList_append_own _ rfl _ _ 22 rfl w.heap.size 25 i0 (.agg #[.string ByteArray.empty, .int .i64 0]) 2 24 Try.underlying22 HI.out.1 HI.out.2.1 HI.out.2.2.1 HI.out.2.2.2 rfl (by decide) _ 0 _ rfl (HO2.out.alloc _) ⟨w.heap.size + 1, 0, none⟩ 2 2 [.string ⟨#[]⟩, .int .i64 (-70), .string ⟨#[]⟩, .int .i64 (-71)] rfl rfl (row_news4 HRw.out) (by intro u hu; simp at hu; rcases hu with rfl | rfl | rfl | rfl <;> rfl) (by unfold maxLen; omega) (by omega) (by simp; omega) ?_)
      intro v6 w6 own6 grow6 _
      obtain ⟨g6, cap6, rfl, hg6, hc6, R6⟩ := own_full4 own6 (by omega)
      have B6 := grown_below4 (B5.alloc B5.size (.cells #[.string ⟨#[]⟩, .int .i64 (-70), .string ⟨#[]⟩, .int .i64 (-71)] 25)) grow6 (fun j hj => by simp [Value.ownBlock] at hj; omega) (by simp; omega)
      clear B5
      have HG6 : Hid (PkG w w6 g6 none []) := ⟨R6, HV.out.below B6 (Nat.le_refl _), B6⟩
      have q0 : (0 : Int) ≤ (0 : Int) := by omega
      have q1 : (0 : Int) + 2 ≤ (cap6 : Int) := by omega
      have q2 : (0 : Int) ≤ (cap6 : Int) := by omega
      have HPK := Lib.hid (pack_any (some ⟨g6, 0, none⟩) cap6 [] w6 (valD_row R6) (by omega) (by omega))
      have HRP := Lib.hid (fun W (h : ValD W none []) => rpack_any none 0 [] W h (by omega))
      unfold PackP at HPK HRP
      generalize packB [] = pb at *
      generalize packE [] = pe at *
      clear own6 grow6 hg6 hc6 R6 B6 HRw HO2
      go_wp2_with fail
      refine HPK.out.mono ?_
      rintro e w7 ⟨rfl, hb7⟩
      have HG7 := Lib.hid (HG6.out.keep hb7)
      clear hb7 HPK HG6
      go_wp2_with fail
      refine (HRP.out _ HG7.out.2.1).mono ?_
      rintro e w8 ⟨rfl, hb8⟩
      have HG8 := Lib.hid (HG7.out.keep hb8)
      have HSm := Lib.hid (same12 (some ⟨g6, 0, none⟩) none cap6 0 [] w8 (by omega) (valD_row HG8.out.1) HG8.out.2.1)
      clear hb8 HRP HG7
      go_wp2_with fail
      refine HSm.out.mono ?_
      rintro e w9 ⟨rfl, hb9⟩
      have HG9 := Lib.hid (HG8.out.keep hb9)
      obtain ⟨t1, t2⟩ := pk_tail HG9.out.1
      have t3 : w9.cell? ⟨g6, 1, none⟩ = some (.int .i64 (-70)) := t1
      have t4 : w9.cell? ⟨g6, 3, none⟩ = some (.int .i64 (-71)) := t2
      clear t1 t2
      have B9 := HG9.out.2.2
      have q3 : (0 : Int) < (0 : Int) + 2 := by omega
      have q4 : (0 : Int) + 1 < (0 : Int) + 2 := by omega
      have q5 : (0 : Int) ≤ (0 : Int) + 1 := by omega
      clear hb9 HSm HG8
      go_wp2_with fail
      refine (alive12 _).mono ?_
      rintro e w10 ⟨rfl, hb10⟩
      have B10 := below_chain B9 hb10 B9.size
      go_wp2_with fail
      go_ret
      exact ⟨rfl, B10⟩
  | some ad =>
    clear hnone
    go_enter Try.func3, Try.ntmps3
    go_wp2_with fail
    refine HGr.out.mono ?_
    rintro e w1 ⟨⟨b, rfl, hb100⟩, rfl⟩
    cases b with
    | true =>
      clear hb100
      go_wp2_with fail
      go_ret
      exact ⟨rfl, B0⟩
    | false =>
      clear hb100 HGr
      have HNw : Hid (∃ B o, ad = ⟨B, o, none⟩ ∧ ∀ j u, (l.flatMap De.cells)[j]? = some u → (w.alloc (.cells MC 25)).cell? ((⟨B, o, none⟩ : Addr).add j) = some u) ∨ l = [] := by
        rcases HVA.out with h | ⟨B, o, h, _, h2⟩
        · exact .inr h
        · injection h with h
          exact .inl ⟨B, o, h, pk_news h2⟩
      have HNw2 : Hid (∀ j u, (l.flatMap De.cells)[j]? = some u → (w.alloc (.cells MC 25)).cell? (ad.add j) = some u) := by
        rcases HNw with h | h
        · obtain ⟨B, o, e, h2⟩ := h.out
          rw [e]; exact h2
        · intro j u hu
          rw [h] at hu
          simp at hu
      clear HNw
      go_wp2_with (at_builtin; refine wpList_append_own _ rfl _ _ 22 rfl w.heap.size 25 i0 (.agg #[.string ByteArray.empty, .int .i64 0]) 2 24 Try.underlying22 HI.out.1 HI.out.2.1 HI.out.2.2.1 HI.out.2.2.2 rfl (by decide) _ 0 [] rfl HO.out ad l.length cap (l.flatMap De.cells) rfl (decells_len l) HNw2.out (decells_one l) (by unfold maxLen; omega) (by omega) (by simp) ?_)
      intro v5 w5 own5 grow5 _
      have HO5 : Hid (w5.ownsRow w.heap.size 25 2 v5 l.length (l.flatMap De.cells)) := by
        exact own5
      have B5 : Below w.heap.size w w5 := grown_below4 HB1.out grow5 (fun j hj => by simp [Value.ownBlock] at hj; omega) (by simp)
      clear grow5 HNw2 own5
      have HL5 := Lib.hid (fun j hj => World.ownsRow.lt HO5.out j hj)
      have HRw := Lib.hid (row_news4 (rowAt_alloc w5 #[.string ⟨#[]⟩, .int .i64 (-70), .string ⟨#[]⟩, .int .i64 (-71)] 25))
      go_wp2_with (at_builtin; refine wpList_append_own _ rfl _ _ 22 rfl w.heap.size 25 i0 (.agg #[.string ByteArray.empty, .int .i64 0]) 2 24 Try.underlying22 HI.out.1 HI.out.2.1 HI.out.2.2.1 HI.out.2.2.2 rfl (by decide) _ l.length _ rfl (HO5.out.alloc _) ⟨w5.heap.size, 0, none⟩ 2 2 [.string ⟨#[]⟩, .int .i64 (-70), .string ⟨#[]⟩, .int .i64 (-71)] rfl rfl HRw.out (by intro u hu; simp at hu; rcases hu with rfl | rfl | rfl | rfl <;> rfl) (by unfold maxLen; omega) (by omega) (by have := B5.size; simp; omega) ?_)
      intro v6 w6 own6 grow6 _
      obtain ⟨g6, cap6, rfl, hg6, hc6, R6⟩ := own_full4 own6 (by omega)
      have B6 := grown_below4 (B5.alloc B5.size (.cells #[.string ⟨#[]⟩, .int .i64 (-70), .string ⟨#[]⟩, .int .i64 (-71)] 25)) grow6 (fun j hj => (HL5.out j hj).1) (by have := B5.size; simp; omega)
      have HG6 : Hid (PkG w w6 g6 (some ad) l) := ⟨R6, HV.out.below B6 (Nat.le_refl _), B6⟩
      have q0 : (0 : Int) ≤ (l.length : Int) := by omega
      have q1 : (l.length : Int) + 2 ≤ (cap6 : Int) := by omega
      have q2 : (l.length : Int) ≤ (cap6 : Int) := by omega
      have HPK := Lib.hid (pack_any (some ⟨g6, 0, none⟩) cap6 l w6 (valD_row R6) (by omega) (by omega))
      have HRP := Lib.hid (fun W (h : ValD W (some ad) l) => rpack_any (some ad) cap l W h (by omega))
      unfold PackP at HPK HRP
      generalize packB l = pb at *
      generalize packE l = pe at *
      clear own6 grow6 hg6 hc6 R6 B6 B5 HL5 HO5 HRw
      go_wp2_with fail
      refine HPK.out.mono ?_
      rintro e w7 ⟨rfl, hb7⟩
      have HG7 := Lib.hid (HG6.out.keep hb7)
      clear hb7 HPK HG6
      go_wp2_with fail
      refine (HRP.out _ HG7.out.2.1).mono ?_
      rintro e w8 ⟨rfl, hb8⟩
      have HG8 := Lib.hid (HG7.out.keep hb8)
      have HSm := Lib.hid (same12 (some ⟨g6, 0, none⟩) (some ad) cap6 cap l w8 (by omega) (valD_row HG8.out.1) HG8.out.2.1)
      clear hb8 HRP HG7
      go_wp2_with fail
      refine HSm.out.mono ?_
      rintro e w9 ⟨rfl, hb9⟩
      have HG9 := Lib.hid (HG8.out.keep hb9)
      obtain ⟨t1, t2⟩ := pk_tail HG9.out.1
      have B9 := HG9.out.2.2
      have q3 : (l.length : Int) < (l.length : Int) + 2 := by omega
      have q4 : (l.length : Int) + 1 < (l.length : Int) + 2 := by omega
      have q5 : (0 : Int) ≤ (l.length : Int) + 1 := by omega
      clear hb9 HSm HG8
      go_wp2_with fail
      refine (alive12 _).mono ?_
      rintro e w10 ⟨rfl, hb10⟩
      have B10 := below_chain B9 hb10 B9.size
      go_wp2_with fail
      go_ret
      exact ⟨rfl, B10⟩

/-! ### the frame (printed by mklaw.py) -/

set_option maxRecDepth 100000 in
theorem lifted_direntsPack (os : Os) (started : os.Started) (H : Type) (enc : TypeId × Value → H) :
    ReturnsInHanded {} Try.checked os 3 .any (Rows.direntsPackSpec.pre6 enc Try.prog Try.f3 Rows.direntsPackRow.domain false) (Rows.direntsPackSpec.post enc Try.prog Try.f3 false true false false) := by
  refine law_step (C := Try.checked) (tb := 4) (by kernel_rfl) (by kernel_rfl) started (by kernel_rfl) Try.func3 rfl Try.underlying4 rfl ?_ ?_
    (ChangeSpec.witness6 (enc := enc) (C := Try.checked) false ⟨#[], #[.slice none 0 0], []⟩ 8 (by kernel_rfl) (by kernel_rfl) (by kernel_rfl) (by kernel_rfl)) ?_
  · intro ds hl
    match ds, hl with
    | [d0], _ => rfl
  · intro t ht
    rw [show Try.f3.params.toList = [22] from by rw [Try.params3]] at ht
    simp only [List.mem_cons, List.not_mem_nil, or_false] at ht
    rcases ht with rfl
    · exact ⟨by kernel_rfl, of_decide_eq_true (by kernel_rfl)⟩
  · intro W args hG
    rw [show Try.f3.params.toList = [22] from by rw [Try.params3]] at hG
    obtain ⟨v0, rfl, g0⟩ := gotAll_args1 hG
    obtain ⟨a0, cap0, l0, rfl, hc0, hm0, hV0, hs0, hn0⟩ := got_desN g0
    exact walk_direntsPack W a0 cap0 l0 hc0 hm0 hV0 hs0 hn0

theorem direntsPack_over : Rows.direntsPackRow.holds Try.pinned (OpenSpec.ofChange Rows.direntsPackSpec) :=
  OpenClaim.holds_of_wide 3 Try.f3 rfl rfl rfl rfl rfl rfl rfl ⟨rfl, rfl, rfl, rfl, rfl⟩ rfl rfl rfl rfl rfl (by kernel_rfl) Try.func3 (by kernel_rfl)
    (of_decide_eq_true (by kernel_rfl)) (by unfold Func.isWrapper; first | (rw [if_pos (by decide +kernel)]; kernel_rfl) | (rw [if_neg (by decide +kernel)]; exact ⟨rfl, rfl⟩))
    (fun os started H enc _ => lifted_direntsPack os started H enc)

theorem direntsPack_holds : Rows.DirentsPackSaid := direntsPack_over
#print axioms direntsPack_holds

end Go.Proofs.Ytlhkfpenfbakkaa
