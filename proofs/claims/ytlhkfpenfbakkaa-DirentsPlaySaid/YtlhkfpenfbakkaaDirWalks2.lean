/- Walks: what is asked of entries; the first that is so. -/
import Derived.Test.YtlhkfpenfbakkaaDirWalks
set_option linter.unusedVariables false
set_option linter.unusedSimpArgs false
set_option maxRecDepth 100000
namespace Go.Proofs.Ytlhkfpenfbakkaa
open Go.RowKit Go.Joins

def fIdx (r : Option Nat) : Int := match r with | some k => (k : Int) | none => -1
theorem str_eq (a b : ByteArray) : (a.toList == b.toList) = decide (bts a = bts b) := by
  rw [Lib.toList_data, Lib.toList_data, Bool.eq_iff_iff, beq_iff_eq, decide_eq_true_iff]
theorem cell_lt {w : World} {B o : Nat} {v : Value} (h : w.cell? ⟨B, o, none⟩ = some v) : B < w.heap.size := World.block_lt_of_cell? w ⟨B, o, none⟩ h

/-- does an entry fail so? -/
def chkIs (want : Int) (d : De) : Bool := chkP d == want

def PS (w W : World) (B : Nat) : Prop := Below w.heap.size w W ∧ B < w.heap.size ∧ w.heap.size < W.heap.size
theorem ps_keep {w W W' : World} {B : Nat} {a b c : Value} (h : W.cell? ⟨B, 0, none⟩ = some a ∧ W.cell? ⟨w.heap.size, 0, none⟩ = some b ∧ W.cell? ⟨w.heap.size, 1, none⟩ = some c ∧ PS w W B) (hb : Below W.heap.size W W') : W'.cell? ⟨B, 0, none⟩ = some a ∧ W'.cell? ⟨w.heap.size, 0, none⟩ = some b ∧ W'.cell? ⟨w.heap.size, 1, none⟩ = some c ∧ PS w W' B := by
  obtain ⟨h1, h2, h3, h4, h5, h6⟩ := h
  exact ⟨by rw [hb.cell (p := ⟨B, 0, none⟩) (by show B < _; omega)]; exact h1, by rw [hb.cell (p := ⟨w.heap.size, 0, none⟩) h6]; exact h2, by rw [hb.cell (p := ⟨w.heap.size, 1, none⟩) h6]; exact h3, below_chain h4 hb h4.size, h5, by have := hb.size; omega⟩
theorem ps_end {w W : World} {B : Nat} {a b c : Value} (h : W.cell? ⟨B, 0, none⟩ = some a ∧ W.cell? ⟨w.heap.size, 0, none⟩ = some b ∧ W.cell? ⟨w.heap.size, 1, none⟩ = some c ∧ PS w W B) : Below w.heap.size w W := h.2.2.2.1

theorem clo1 (B : Nat) (want : Int) (d : De) (w : World) (h0 : w.cell? ⟨B, 0, none⟩ = some (.int .i64 want)) :
    Calls Try.prog 25 #[d.agg, .pointer (some ⟨B, 0, none⟩)] w fun e w' => e = .returned (.bool (chkIs want d)) ∧ Below w.heap.size w w' := by
  have HC := Lib.hid (fun W => check_any d W)
  have hk : chkIs want d = (chkP d == want) := rfl
  rw [hk]
  clear hk
  generalize chkP d = ch at *
  obtain ⟨nm, ino⟩ := d
  change Calls _ _ #[.agg #[.string nm, .int .i64 ino], _] _ _
  change Hid (∀ W, Calls _ _ #[.agg #[.string nm, .int .i64 ino]] _ _) at HC
  have hB := cell_lt h0
  have HI : Hid ((w.alloc (.cells #[.string nm, .int .i64 ino] 25)).drew.cell? ⟨B, 0, none⟩ = some (.int .i64 want) ∧ (w.alloc (.cells #[.string nm, .int .i64 ino] 25)).drew.cell? ⟨w.heap.size, 0, none⟩ = some (.string nm) ∧ (w.alloc (.cells #[.string nm, .int .i64 ino] 25)).drew.cell? ⟨w.heap.size, 1, none⟩ = some (.int .i64 ino) ∧ PS w (w.alloc (.cells #[.string nm, .int .i64 ino] 25)).drew B) := by
    refine ⟨?_, World.cell?_alloc_new _ _ _ 0, World.cell?_alloc_new _ _ _ 1, ((Below.refl _ _).alloc (Nat.le_refl _) _).drew, hB, by show _ < (w.alloc _).heap.size; simp⟩
    show (w.alloc _).cell? _ = _
    rw [World.cell?_alloc_old _ _ _ (by show B ≠ _; omega)]
    exact h0
  go_enter Try.func25, Try.ntmps25
  go_wp2_with fail
  go_region_held3 (fun W => W.cell? ⟨B, 0, none⟩ = some (.int .i64 want) ∧ W.cell? ⟨w.heap.size, 0, none⟩ = some (.string nm) ∧ W.cell? ⟨w.heap.size, 1, none⟩ = some (.int .i64 ino) ∧ PS w W B) (first | (exact HI.out) | (exact ps_keep (by assumption) (by assumption)))
    (first | (go_at_call 26; refine (HC.out _).mono ?_; rintro e w5 ⟨rfl, hb5⟩))
  have hE := ps_end (w := w) (W := w5) (by assumption)
  go_wp2_with fail
  go_ret
  exact ⟨rfl, hE⟩

theorem clo2 (B : Nat) (x : ByteArray) (d : De) (w : World) (h0 : w.cell? ⟨B, 0, none⟩ = some (.string x)) :
    Calls Try.prog 27 #[d.agg, .pointer (some ⟨B, 0, none⟩)] w fun e w' => e = .returned (.bool (deP x d)) ∧ Below w.heap.size w w' := by
  have hk : deP x d = (d.nm.toList == x.toList) := (str_eq d.nm x).symm
  rw [hk]
  clear hk
  obtain ⟨nm, ino⟩ := d
  change Calls _ _ #[.agg #[.string nm, .int .i64 ino], _] _ _
  have hB := cell_lt h0
  go_enter Try.func27, Try.ntmps27
  go_wp2_with fail
  go_ret
  exact ⟨rfl, (Below.refl _ _).alloc (Nat.le_refl _) _⟩

theorem clo3 (B : Nat) (x : ByteArray) (d : De) (w : World) (h0 : w.cell? ⟨B, 0, none⟩ = some (.string x)) :
    Calls Try.prog 44 #[d.agg, .pointer (some ⟨B, 0, none⟩)] w fun e w' => e = .returned (.bool (deP x d)) ∧ Below w.heap.size w w' := by
  have hk : deP x d = (d.nm.toList == x.toList) := (str_eq d.nm x).symm
  rw [hk]
  clear hk
  obtain ⟨nm, ino⟩ := d
  change Calls _ _ #[.agg #[.string nm, .int .i64 ino], _] _ _
  have hB := cell_lt h0
  go_enter Try.func44, Try.ntmps44
  go_wp2_with fail
  go_ret
  exact ⟨rfl, (Below.refl _ _).alloc (Nat.le_refl _) _⟩

set_option maxHeartbeats 1000000 in
theorem index1 (a : Option Addr) (cap : Nat) (l : List De) (B : Nat) (want : Int) (w : World) (hV : ValD w a l) (hl : l.length ≤ 1000000) (h0 : w.cell? ⟨B, 0, none⟩ = some (.int .i64 want)) :
    Calls Try.prog 35 #[.slice a l.length cap, .func (.func 25) #[] #[.pointer (some ⟨B, 0, none⟩)]] w fun e w' => e = .returned (.int .i64 (fIdx (l.findIdx? (chkIs want)))) ∧ Below w.heap.size w w' := by
  have HV := Lib.hid hV
  have hB := cell_lt h0
  have HC := Lib.hid h0
  have hl' : (l.length : Int) ≤ 1000000 := by omega
  clear hV h0
  go_enter Try.func35, Try.ntmps35
  go_wp2_with fail
  go_loopw [5, 8] (fun _ jj wr => ∃ k : Nat, k ≤ l.length ∧ jj = .int .i64 k ∧ Hid (∀ j < k, ∃ s, l[j]? = some s ∧ (chkIs want s) = false) ∧ Below w.heap.size w wr) (fun _ jj _ => l.length - (intOf jj).toNat)
  case atStart => exact ⟨0, by omega, rfl, fun j hj => by omega, Below.refl _ _⟩
  case round =>
    obtain ⟨k, hk, rfl, HA, Bw⟩ := hrel
    by_cases hlt : k < l.length
    · obtain ⟨s, hs⟩ : ∃ s, l[k]? = some s := ⟨_, List.getElem?_eq_getElem hlt⟩
      obtain ⟨P, o, rfl, hP, d0, d1⟩ := de_cells (HV.out.below Bw (Nat.le_refl _)) hs
      have HS := Lib.hid hs
      have h1 : (k : Int) < (l.length : Int) := by omega
      have h2 : (0 : Int) ≤ (k : Int) := by omega
      have hc2 : wr.cell? ⟨B, 0, none⟩ = some (.int .i64 want) := by rw [Bw.cell (p := ⟨B, 0, none⟩) hB]; exact HC.out
      have HF := Lib.hid (clo1 B want s wr hc2)
      change Hid (Calls _ _ #[.agg #[.string s.nm, .int .i64 s.ino], _] _ _) at HF
      clear hs hc2
      go_wp2_with fail
      refine HF.out.mono ?_
      rintro e w1 ⟨rfl, hb1⟩
      have B1 := below_chain Bw hb1 Bw.size
      clear d0 d1
      cases hp : (chkIs want s) with
      | true =>
        have HF2 : Hid (l.findIdx? (chkIs want) = some k) := by
          show _ = _
          rw [List.findIdx?_eq_some_iff_getElem]
          refine ⟨hlt, ?_, fun j hj => ?_⟩
          · rw [(List.getElem_eq_iff _).2 HS.out]; exact hp
          · obtain ⟨s', h1', h2'⟩ := HA.out j hj
            rw [(List.getElem_eq_iff _).2 h1', h2']; simp
        have HP := Lib.hid hp
        go_wp2_with fail
        go_ret
        rw [HF2.out]
        exact ⟨rfl, B1⟩
      | false =>
        have HA2 : Hid (∀ j < k + 1, ∃ s, l[j]? = some s ∧ (chkIs want s) = false) := by
          intro j hj
          by_cases c : j < k
          · exact HA.out j c
          · obtain rfl : j = k := by omega
            exact ⟨s, HS.out, hp⟩
        go_wp2_with fail
        go_roundw
        case rel => exact ⟨k + 1, by omega, by go_num, HA2, B1⟩
        case measure => simp [intOf]; omega
    · obtain rfl : k = l.length := by omega
      have h1 : ¬ (l.length : Int) < (l.length : Int) := by omega
      have HF2 : Hid (l.findIdx? (chkIs want) = none) := by
        show _ = _
        rw [List.findIdx?_eq_none_iff]
        intro x hx
        obtain ⟨j, hj, rfl⟩ := List.getElem_of_mem hx
        obtain ⟨s', h1', h2'⟩ := HA.out j hj
        rw [(List.getElem_eq_iff _).2 h1', h2']
      go_wp2_with fail
      go_ret
      rw [HF2.out]
      exact ⟨rfl, Bw⟩

theorem contains1 (a : Option Addr) (cap : Nat) (l : List De) (B : Nat) (want : Int) (w : World) (hV : ValD w a l) (hl : l.length ≤ 1000000) (h0 : w.cell? ⟨B, 0, none⟩ = some (.int .i64 want)) :
    Calls Try.prog 24 #[.slice a l.length cap, .func (.func 25) #[] #[.pointer (some ⟨B, 0, none⟩)]] w fun e w' => e = .returned (.bool (l.any (chkIs want))) ∧ Below w.heap.size w w' := by
  have HI := Lib.hid (index1 a cap l B want w hV hl h0)
  have hr : l.any (chkIs want) = decide (0 ≤ fIdx (l.findIdx? (chkIs want))) := by
    cases hf : l.findIdx? (chkIs want) with
    | some k =>
      rw [List.findIdx?_eq_some_iff_getElem] at hf
      obtain ⟨hk, h1, _⟩ := hf
      rw [decide_eq_true (by simp [fIdx]), List.any_eq_true]
      exact ⟨_, List.getElem_mem hk, h1⟩
    | none =>
      rw [List.findIdx?_eq_none_iff] at hf
      rw [decide_eq_false (by simp [fIdx]), List.any_eq_false]
      intro x hx
      rw [hf x hx]; simp
  rw [hr]
  generalize fIdx (l.findIdx? (chkIs want)) = r at *
  clear hr hV h0
  go_enter Try.func24, Try.ntmps24
  go_wp2_with fail
  refine HI.out.mono ?_
  rintro e w1 ⟨rfl, hb⟩
  go_wp2_with fail
  go_ret
  exact ⟨rfl, hb⟩

set_option maxHeartbeats 1000000 in
theorem index2 (a : Option Addr) (cap : Nat) (l : List De) (B : Nat) (x : ByteArray) (w : World) (hV : ValD w a l) (hl : l.length ≤ 1000000) (h0 : w.cell? ⟨B, 0, none⟩ = some (.string x)) :
    Calls Try.prog 35 #[.slice a l.length cap, .func (.func 27) #[] #[.pointer (some ⟨B, 0, none⟩)]] w fun e w' => e = .returned (.int .i64 (fIdx (l.findIdx? (deP x)))) ∧ Below w.heap.size w w' := by
  have HV := Lib.hid hV
  have hB := cell_lt h0
  have HC := Lib.hid h0
  have hl' : (l.length : Int) ≤ 1000000 := by omega
  clear hV h0
  go_enter Try.func35, Try.ntmps35
  go_wp2_with fail
  go_loopw [5, 8] (fun _ jj wr => ∃ k : Nat, k ≤ l.length ∧ jj = .int .i64 k ∧ Hid (∀ j < k, ∃ s, l[j]? = some s ∧ (deP x s) = false) ∧ Below w.heap.size w wr) (fun _ jj _ => l.length - (intOf jj).toNat)
  case atStart => exact ⟨0, by omega, rfl, fun j hj => by omega, Below.refl _ _⟩
  case round =>
    obtain ⟨k, hk, rfl, HA, Bw⟩ := hrel
    by_cases hlt : k < l.length
    · obtain ⟨s, hs⟩ : ∃ s, l[k]? = some s := ⟨_, List.getElem?_eq_getElem hlt⟩
      obtain ⟨P, o, rfl, hP, d0, d1⟩ := de_cells (HV.out.below Bw (Nat.le_refl _)) hs
      have HS := Lib.hid hs
      have h1 : (k : Int) < (l.length : Int) := by omega
      have h2 : (0 : Int) ≤ (k : Int) := by omega
      have hc2 : wr.cell? ⟨B, 0, none⟩ = some (.string x) := by rw [Bw.cell (p := ⟨B, 0, none⟩) hB]; exact HC.out
      have HF := Lib.hid (clo2 B x s wr hc2)
      change Hid (Calls _ _ #[.agg #[.string s.nm, .int .i64 s.ino], _] _ _) at HF
      clear hs hc2
      go_wp2_with fail
      refine HF.out.mono ?_
      rintro e w1 ⟨rfl, hb1⟩
      have B1 := below_chain Bw hb1 Bw.size
      clear d0 d1
      cases hp : (deP x s) with
      | true =>
        have HF2 : Hid (l.findIdx? (deP x) = some k) := by
          show _ = _
          rw [List.findIdx?_eq_some_iff_getElem]
          refine ⟨hlt, ?_, fun j hj => ?_⟩
          · rw [(List.getElem_eq_iff _).2 HS.out]; exact hp
          · obtain ⟨s', h1', h2'⟩ := HA.out j hj
            rw [(List.getElem_eq_iff _).2 h1', h2']; simp
        have HP := Lib.hid hp
        go_wp2_with fail
        go_ret
        rw [HF2.out]
        exact ⟨rfl, B1⟩
      | false =>
        have HA2 : Hid (∀ j < k + 1, ∃ s, l[j]? = some s ∧ (deP x s) = false) := by
          intro j hj
          by_cases c : j < k
          · exact HA.out j c
          · obtain rfl : j = k := by omega
            exact ⟨s, HS.out, hp⟩
        go_wp2_with fail
        go_roundw
        case rel => exact ⟨k + 1, by omega, by go_num, HA2, B1⟩
        case measure => simp [intOf]; omega
    · obtain rfl : k = l.length := by omega
      have h1 : ¬ (l.length : Int) < (l.length : Int) := by omega
      have HF2 : Hid (l.findIdx? (deP x) = none) := by
        show _ = _
        rw [List.findIdx?_eq_none_iff]
        intro x hx
        obtain ⟨j, hj, rfl⟩ := List.getElem_of_mem hx
        obtain ⟨s', h1', h2'⟩ := HA.out j hj
        rw [(List.getElem_eq_iff _).2 h1', h2']
      go_wp2_with fail
      go_ret
      rw [HF2.out]
      exact ⟨rfl, Bw⟩

theorem contains2 (a : Option Addr) (cap : Nat) (l : List De) (B : Nat) (x : ByteArray) (w : World) (hV : ValD w a l) (hl : l.length ≤ 1000000) (h0 : w.cell? ⟨B, 0, none⟩ = some (.string x)) :
    Calls Try.prog 24 #[.slice a l.length cap, .func (.func 27) #[] #[.pointer (some ⟨B, 0, none⟩)]] w fun e w' => e = .returned (.bool (l.any (deP x))) ∧ Below w.heap.size w w' := by
  have HI := Lib.hid (index2 a cap l B x w hV hl h0)
  have hr : l.any (deP x) = decide (0 ≤ fIdx (l.findIdx? (deP x))) := by
    cases hf : l.findIdx? (deP x) with
    | some k =>
      rw [List.findIdx?_eq_some_iff_getElem] at hf
      obtain ⟨hk, h1, _⟩ := hf
      rw [decide_eq_true (by simp [fIdx]), List.any_eq_true]
      exact ⟨_, List.getElem_mem hk, h1⟩
    | none =>
      rw [List.findIdx?_eq_none_iff] at hf
      rw [decide_eq_false (by simp [fIdx]), List.any_eq_false]
      intro x hx
      rw [hf x hx]; simp
  rw [hr]
  generalize fIdx (l.findIdx? (deP x)) = r at *
  clear hr hV h0
  go_enter Try.func24, Try.ntmps24
  go_wp2_with fail
  refine HI.out.mono ?_
  rintro e w1 ⟨rfl, hb⟩
  go_wp2_with fail
  go_ret
  exact ⟨rfl, hb⟩

set_option maxHeartbeats 1000000 in
theorem index3 (a : Option Addr) (cap : Nat) (l : List De) (B : Nat) (x : ByteArray) (w : World) (hV : ValD w a l) (hl : l.length ≤ 1000000) (h0 : w.cell? ⟨B, 0, none⟩ = some (.string x)) :
    Calls Try.prog 35 #[.slice a l.length cap, .func (.func 44) #[] #[.pointer (some ⟨B, 0, none⟩)]] w fun e w' => e = .returned (.int .i64 (fIdx (l.findIdx? (deP x)))) ∧ Below w.heap.size w w' := by
  have HV := Lib.hid hV
  have hB := cell_lt h0
  have HC := Lib.hid h0
  have hl' : (l.length : Int) ≤ 1000000 := by omega
  clear hV h0
  go_enter Try.func35, Try.ntmps35
  go_wp2_with fail
  go_loopw [5, 8] (fun _ jj wr => ∃ k : Nat, k ≤ l.length ∧ jj = .int .i64 k ∧ Hid (∀ j < k, ∃ s, l[j]? = some s ∧ (deP x s) = false) ∧ Below w.heap.size w wr) (fun _ jj _ => l.length - (intOf jj).toNat)
  case atStart => exact ⟨0, by omega, rfl, fun j hj => by omega, Below.refl _ _⟩
  case round =>
    obtain ⟨k, hk, rfl, HA, Bw⟩ := hrel
    by_cases hlt : k < l.length
    · obtain ⟨s, hs⟩ : ∃ s, l[k]? = some s := ⟨_, List.getElem?_eq_getElem hlt⟩
      obtain ⟨P, o, rfl, hP, d0, d1⟩ := de_cells (HV.out.below Bw (Nat.le_refl _)) hs
      have HS := Lib.hid hs
      have h1 : (k : Int) < (l.length : Int) := by omega
      have h2 : (0 : Int) ≤ (k : Int) := by omega
      have hc2 : wr.cell? ⟨B, 0, none⟩ = some (.string x) := by rw [Bw.cell (p := ⟨B, 0, none⟩) hB]; exact HC.out
      have HF := Lib.hid (clo3 B x s wr hc2)
      change Hid (Calls _ _ #[.agg #[.string s.nm, .int .i64 s.ino], _] _ _) at HF
      clear hs hc2
      go_wp2_with fail
      refine HF.out.mono ?_
      rintro e w1 ⟨rfl, hb1⟩
      have B1 := below_chain Bw hb1 Bw.size
      clear d0 d1
      cases hp : (deP x s) with
      | true =>
        have HF2 : Hid (l.findIdx? (deP x) = some k) := by
          show _ = _
          rw [List.findIdx?_eq_some_iff_getElem]
          refine ⟨hlt, ?_, fun j hj => ?_⟩
          · rw [(List.getElem_eq_iff _).2 HS.out]; exact hp
          · obtain ⟨s', h1', h2'⟩ := HA.out j hj
            rw [(List.getElem_eq_iff _).2 h1', h2']; simp
        have HP := Lib.hid hp
        go_wp2_with fail
        go_ret
        rw [HF2.out]
        exact ⟨rfl, B1⟩
      | false =>
        have HA2 : Hid (∀ j < k + 1, ∃ s, l[j]? = some s ∧ (deP x s) = false) := by
          intro j hj
          by_cases c : j < k
          · exact HA.out j c
          · obtain rfl : j = k := by omega
            exact ⟨s, HS.out, hp⟩
        go_wp2_with fail
        go_roundw
        case rel => exact ⟨k + 1, by omega, by go_num, HA2, B1⟩
        case measure => simp [intOf]; omega
    · obtain rfl : k = l.length := by omega
      have h1 : ¬ (l.length : Int) < (l.length : Int) := by omega
      have HF2 : Hid (l.findIdx? (deP x) = none) := by
        show _ = _
        rw [List.findIdx?_eq_none_iff]
        intro x hx
        obtain ⟨j, hj, rfl⟩ := List.getElem_of_mem hx
        obtain ⟨s', h1', h2'⟩ := HA.out j hj
        rw [(List.getElem_eq_iff _).2 h1', h2']
      go_wp2_with fail
      go_ret
      rw [HF2.out]
      exact ⟨rfl, Bw⟩

end Go.Proofs.Ytlhkfpenfbakkaa
