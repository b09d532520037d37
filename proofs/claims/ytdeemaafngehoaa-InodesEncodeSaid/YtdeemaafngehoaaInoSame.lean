/- Walks: are two inodes the same? -/
import Derived.Test.YtdeemaafngehoaaInoWalks4
import Derived.BigQuiet
import Derived.Deep.QuietTactic
set_option linter.unusedVariables false
set_option linter.unusedSimpArgs false
set_option maxRecDepth 100000
namespace Go.Proofs.Ytdeemaafngehoaa
open Go.RowKit Go.Joins

theorem eq_ent (a b c a' b' c' : Int) (w : World) : (Op.equalIn 10000 26 (.agg #[.int .i64 a, .int .i64 b, .int .i64 c]) (.agg #[.int .i64 a', .int .i64 b', .int .i64 c'])).run Try.prog w = .ok (a == a' && (b == b' && c == c')) w := by
  go_simp
  by_cases h0 : a = a'
  · by_cases h1 : b = b'
    · by_cases h2 : c = c' <;> simp [h0, h1, h2]
    · simp [h0, h1]
  · simp [h0]

def sameE (a b : List (Int × Int × Int)) : Bool := decide (a = b)

theorem sameE_len (a b : Option Addr) (n m c1 c2 : Nat) (w : World) (h : n ≠ m) (hn : n ≤ 100000) (hm : m ≤ 100000) :
    Calls Try.prog 49 #[.slice a n c1, .slice b m c2] w fun e w' => e = .returned (.bool false) ∧ Below w.heap.size w w' := by
  have hq : ((n : Int) != (m : Int)) = true := by
    have : (n : Int) ≠ m := by omega
    simpa using this
  go_enter Try.func49, Try.ntmps49
  go_wp2_with fail
  go_ret
  exact ⟨rfl, Below.refl _ _⟩

theorem sameE_none (a b : Option Addr) (c1 c2 : Nat) (w : World) :
    Calls Try.prog 49 #[.slice a 0 c1, .slice b 0 c2] w fun e w' => e = .returned (.bool true) ∧ Below w.heap.size w w' := by
  go_enter Try.func49, Try.ntmps49
  go_wp2_with fail
  refine wp_loop_rounds 1 ?_
  rw [rounds_succ]
  go_wp2_with fail
  go_ret
  exact ⟨rfl, Below.refl _ _⟩

set_option maxHeartbeats 2000000 in
theorem sameE_some (B o B' o' c1 c2 : Nat) (es fs : List (Int × Int × Int)) (w : World) (hn : es.length ≤ 100000) (hl : fs.length = es.length) (hE : EntAt w B o es) (hF : EntAt w B' o' fs) :
    Calls Try.prog 49 #[.slice (some ⟨B, o, none⟩) es.length c1, .slice (some ⟨B', o', none⟩) es.length c2] w fun e w' => e = .returned (.bool (sameE es fs)) ∧ Below w.heap.size w w' := by
  have HL := Lib.hid hl
  clear hl
  have hq : ((es.length : Int) != (es.length : Int)) = false := by simp
  go_enter Try.func49, Try.ntmps49
  go_wp2_with fail
  go_loopw [5] (fun j wr => ∃ k : Nat, k ≤ es.length ∧ j = .int .i64 k ∧ es.take k = fs.take k ∧ Below w.heap.size w wr) (fun j _ => es.length - (intOf j).toNat)
  case atStart => exact ⟨0, by omega, rfl, rfl, Below.refl _ _⟩
  case round =>
    obtain ⟨k, hk, rfl, htk, B1⟩ := hrel
    have HT := Lib.hid htk
    clear htk
    by_cases hlt : k < es.length
    · obtain ⟨x, hx⟩ : ∃ x, es[k]? = some x := ⟨_, List.getElem?_eq_getElem hlt⟩
      obtain ⟨y, hy⟩ : ∃ y, fs[k]? = some y := ⟨_, List.getElem?_eq_getElem (by rw [HL.out]; exact hlt)⟩
      obtain ⟨c0, c1, c2⟩ := (hE.below B1 hE.1).at_ k x hx
      obtain ⟨d0, d1, d2⟩ := (hF.below B1 hF.1).at_ k y hy
      have hi0 : (0 : Int) ≤ (k : Int) := by omega
      have hi1 : (k : Int) < (es.length : Int) := by omega
      obtain ⟨x0, x1, x2⟩ := x
      obtain ⟨y0, y1, y2⟩ := y
      by_cases hxy : (x0, x1, x2) = (y0, y1, y2)
      · simp only [Prod.mk.injEq] at hxy
        obtain ⟨rfl, rfl, rfl⟩ := hxy
        have HX := Lib.hid hx
        have HY := Lib.hid hy
        clear hx hy
        go_wp2_with fail
        go_quiet (fail)
        go_wp2_with fail
        go_roundw
        case rel =>
          refine ⟨k + 1, by omega, by go_num, ?_, B1.trans (below_le (below_draws _ _ _) B1.size)⟩
          have e1 := HX.out
          have e2 := HY.out
          rw [List.take_add_one, List.take_add_one, HT.out, e1, e2]
        case measure => simp [intOf]; omega
      · have HX := Lib.hid hx
        have HY := Lib.hid hy
        have HN := Lib.hid hxy
        clear hx hy hxy
        have hne : Hid (sameE es fs = false) := by
          show _ = _
          rw [sameE, decide_eq_false_iff_not]
          rintro rfl
          have := HX.out.symm.trans HY.out
          exact HN.out (Option.some.inj this)
        have hq : ∀ w, (Op.equalIn 10000 26 (.agg #[.int .i64 x0, .int .i64 x1, .int .i64 x2]) (.agg #[.int .i64 y0, .int .i64 y1, .int .i64 y2])).run Try.prog w = .ok false w := by
          intro w
          rw [eq_ent]
          have := HN.out
          simp only [Prod.mk.injEq] at this
          have e : (x0 == y0 && (x1 == y1 && x2 == y2)) = false := by
            rw [Bool.eq_false_iff]
            intro h
            simp only [Bool.and_eq_true, beq_iff_eq] at h
            exact this h
          rw [e]
        go_wp2_with fail
        go_quiet (fail)
        go_wp2_with fail
        go_ret
        rw [hne.out]
        exact ⟨rfl, B1.trans (below_le (below_draws _ _ _) B1.size)⟩
    · obtain rfl : k = es.length := by omega
      go_wp2_with fail
      go_ret
      refine ⟨congrArg Ending.returned (congrArg Value.bool ?_), B1⟩
      have := HT.out
      rw [List.take_of_length_le (Nat.le_refl _), List.take_of_length_le (by rw [HL.out]; exact Nat.le_refl _)] at this
      rw [sameE, decide_eq_true this]

theorem sameE_any {a b : Option Addr} (c1 c2 : Nat) {es fs : List (Int × Int × Int)} (w : World) (hn : es.length ≤ 100000) (hm : fs.length ≤ 100000) (hE : EntS w a es) (hF : EntS w b fs) :
    Calls Try.prog 49 #[.slice a es.length c1, .slice b fs.length c2] w fun e w' => e = .returned (.bool (sameE es fs)) ∧ Below w.heap.size w w' := by
  by_cases hl : fs.length = es.length
  · rw [hl]
    rcases hE with rfl | ⟨B, o, rfl, hE⟩
    · have : fs = [] := List.length_eq_zero_iff.1 hl
      subst this
      have := sameE_none a b c1 c2 w
      simpa [sameE] using this
    · rcases hF with rfl | ⟨B', o', rfl, hF⟩
      · have : es = [] := List.length_eq_zero_iff.1 hl.symm
        subst this
        have := sameE_none (some ⟨B, o, none⟩) b c1 c2 w
        simpa [sameE] using this
      · exact sameE_some B o B' o' c1 c2 es fs w hn hl hE hF
  · have := sameE_len a b es.length fs.length c1 c2 w (by omega) hn hm
    have e : sameE es fs = false := by
      rw [sameE, decide_eq_false_iff_not]
      rintro rfl
      exact hl rfl
    rw [e]; exact this

/-- are two inodes the same? -/
def sameI (x y : Ino) : Bool := x.k == y.k && (x.p == y.p && (x.l == y.l && (x.s == y.s && (x.d == y.d && sameE x.es y.es))))
theorem sameI_iff {x y : Ino} : sameI x y = true ↔ x = y := by
  constructor
  · intro h
    simp only [sameI, Bool.and_eq_true, beq_iff_eq, sameE, decide_eq_true_eq] at h
    exact Ino.ext h.1 h.2.1 h.2.2.1 h.2.2.2.1 h.2.2.2.2.1 h.2.2.2.2.2
  · rintro rfl
    simp [sameI, sameE]
theorem sameI_refl (x : Ino) : sameI x x = true := sameI_iff.2 rfl

set_option maxHeartbeats 4000000 in
theorem same11_any (x y : Ino) {a b : Option Addr} (c1 c2 : Nat) (w : World) (hn : x.es.length ≤ 100000) (hm : y.es.length ≤ 100000) (hE : EntS w a x.es) (hF : EntS w b y.es) :
    Calls Try.prog 21 #[inoV x a c1, inoV y b c2] w fun e w' => e = .returned (.bool (sameI x y)) ∧ Below w.heap.size w w' := by
  obtain ⟨k, p, l, s, d, es⟩ := x
  obtain ⟨k', p', l', s', d', fs⟩ := y
  have hE' : EntS w a es := hE
  have hF' : EntS w b fs := hF
  have hn' : es.length ≤ 100000 := hn
  have hm' : fs.length ≤ 100000 := hm
  clear hE hF hn hm
  obtain ⟨R, hR⟩ : ∃ R, R = sameE es fs := ⟨_, rfl⟩
  have HC : Hid (∀ W, Below w.heap.size w W → Calls Try.prog 49 #[.slice a es.length c1, .slice b fs.length c2] W fun e w' => e = .returned (.bool R) ∧ Below W.heap.size W w') := by
    intro W hb
    rw [hR]
    exact sameE_any c1 c2 W hn' hm' (hE'.below hb (Nat.le_refl _)) (hF'.below hb (Nat.le_refl _))
  show Calls _ _ #[iv k p l s d a es.length c1, iv k' p' l' s' d' b fs.length c2] w fun e w' => e = .returned (.bool (k == k' && (p == p' && (l == l' && (s == s' && (d == d' && sameE es fs)))))) ∧ Below w.heap.size w w'
  rw [← hR]
  clear hR hE' hF'
  have hB0 : Below w.heap.size w ((w.alloc (.cells #[.int .i64 k, .bool p, .int .i64 l, .int .i64 s, .int .i64 d, .slice a es.length c1] 24)).alloc (.cells #[.int .i64 k', .bool p', .int .i64 l', .int .i64 s', .int .i64 d', .slice b fs.length c2] 24)) := ((Below.refl _ _).alloc (Nat.le_refl _) _).alloc (by simp) _
  by_cases h0 : k = k'
  · subst h0
    by_cases h1 : p = p'
    · subst h1
      by_cases h2 : l = l'
      · subst h2
        by_cases h3 : s = s'
        · subst h3
          by_cases h4 : d = d'
          · subst h4
            simp only [BEq.rfl, Bool.true_and]
            go_enter Try.func21, Try.ntmps21
            go_wp2_with fail
            refine (HC.out _ hB0).mono ?_
            rintro e w4 ⟨rfl, hb4⟩
            have B4 := below_chain hB0 hb4 hB0.size
            go_wp2_with fail
            go_ret
            exact ⟨rfl, B4⟩
          · have q : (d == d') = false := by simpa using h4
            clear h4
            simp only [BEq.rfl, Bool.true_and, q, Bool.false_and]
            go_enter Try.func21, Try.ntmps21
            go_wp2_with fail
            go_ret
            exact ⟨rfl, hB0⟩
        · have q : (s == s') = false := by simpa using h3
          clear h3
          simp only [BEq.rfl, Bool.true_and, q, Bool.false_and]
          go_enter Try.func21, Try.ntmps21
          go_wp2_with fail
          go_ret
          exact ⟨rfl, hB0⟩
      · have q : (l == l') = false := by simpa using h2
        clear h2
        simp only [BEq.rfl, Bool.true_and, q, Bool.false_and]
        go_enter Try.func21, Try.ntmps21
        go_wp2_with fail
        go_ret
        exact ⟨rfl, hB0⟩
    · have q : (p == p') = false := by simpa using h1
      clear h1
      simp only [BEq.rfl, Bool.true_and, q, Bool.false_and]
      go_enter Try.func21, Try.ntmps21
      go_wp2_with fail
      go_ret
      exact ⟨rfl, hB0⟩
  · have q : (k == k') = false := by simpa using h0
    clear h0
    simp only [q, Bool.false_and]
    go_enter Try.func21, Try.ntmps21
    go_wp2_with fail
    go_ret
    exact ⟨rfl, hB0⟩

end Go.Proofs.Ytdeemaafngehoaa
