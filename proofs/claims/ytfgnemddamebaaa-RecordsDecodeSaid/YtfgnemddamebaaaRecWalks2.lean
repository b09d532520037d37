/- Walks: may a record be? -/
import Derived.Test.YtfgnemddamebaaaRecWalks
set_option linter.unusedVariables false
set_option linter.unusedSimpArgs false
set_option maxRecDepth 100000
namespace Go.Proofs.Ytfgnemddamebaaa
open Go.RowKit Go.Joins

abbrev rv (k q t : Int) (ah : Option Addr) (n ch : Nat) (am : Option Addr) (m cm : Nat) (s : Int) : Value := .agg #[.int .i64 k, .int .u64 q, .int .i64 t, .slice ah n ch, .slice am m cm, .int .u32 s]
abbrev rcV (x : Rc) (ah : Option Addr) (ch : Nat) (am : Option Addr) (cm : Nat) : Value := rv x.k x.q x.at_ ah x.hs.length ch am x.ms.length cm x.sum
abbrev rcells (k q t : Int) (ah : Option Addr) (n ch : Nat) (am : Option Addr) (m cm : Nat) (s : Int) : Array Value := #[.int .i64 k, .int .u64 q, .int .i64 t, .slice ah n ch, .slice am m cm, .int .u32 s]

theorem sixr_cells {w : World} {K : Nat} {v0 v1 v2 v3 v4 v5 : Value} (h : RowAt w K [v0, v1, v2, v3, v4, v5]) : w.cell? ⟨K, 0, none⟩ = some v0 ∧ w.cell? ⟨K, 1, none⟩ = some v1 ∧ w.cell? ⟨K, 2, none⟩ = some v2 ∧ w.cell? ⟨K, 3, none⟩ = some v3 ∧ w.cell? ⟨K, 4, none⟩ = some v4 ∧ w.cell? ⟨K, 5, none⟩ = some v5 :=
  ⟨h.cell 0 (by simp), h.cell 1 (by simp), h.cell 2 (by simp), h.cell 3 (by simp), h.cell 4 (by simp), h.cell 5 (by simp)⟩

/-- may a record be, by how many numbers and marks it has? r: are its numbers homes? -/
def rokB (k t : Int) (n m : Nat) (s : Int) (r24 r28 : Bool) : Bool :=
  if k = 1 then decide (0 ≤ t) && (decide (t ≤ 510) && (decide (s = 0) && (decide (n = 0) && decide (m = 0))))
  else if k = 2 then decide (t = 0) && (decide (s = 0) && (r24 && decide (m = n)))
  else if k = 3 then decide (t = 0) && (decide (s = 0) && (r28 && decide (m = 0)))
  else decide (k = 4) && (decide (t = 0) && (decide (n = 0) && decide (m = 0)))

theorem int_eq_lit (n : Nat) : ((n : Int) == 0) = decide (n = 0) := by
  rw [Bool.eq_iff_iff]; simp
theorem int_eq_nat (n m : Nat) : ((n : Int) == (m : Int)) = decide (n = m) := by
  rw [Bool.eq_iff_iff]; simp; omega

set_option maxHeartbeats 2000000 in
theorem may_k1 (q t : Int) (ah : Option Addr) (n ch : Nat) (am : Option Addr) (m cm : Nat) (s : Int) (r24 r28 : Bool) (w : World) (hn : n ≤ 100000) (hm : m ≤ 100000) :
    Calls Try.prog 27 #[rv 1 q t ah n ch am m cm s] w fun e w' => e = .returned (.bool (rokB 1 t n m s r24 r28)) ∧ Below w.heap.size w w' := by
  have B0 := (Below.refl w.heap.size w).alloc (Nat.le_refl _) (.cells (rcells 1 q t ah n ch am m cm s) 27)
  have HR : Hid (rokB 1 t n m s r24 r28 = (decide (0 ≤ t) && (decide (t ≤ 510) && (decide (s = 0) && (decide (n = 0) && decide (m = 0)))))) := rfl
  by_cases c1 : 0 ≤ t
  · by_cases c2 : t ≤ 510
    · by_cases c3 : s = 0
      · subst c3
        by_cases c4 : n = 0
        · subst c4
          go_enter Try.func27, Try.ntmps27
          go_wp2
          go_ret
          rw [HR.out]
          exact ⟨by simp [c1, c2, int_eq_lit], B0⟩
        · have e4 : ((n : Int) == 0) = false := by rw [int_eq_lit]; simpa using c4
          have H4 := Lib.hid c4
          clear c4
          go_enter Try.func27, Try.ntmps27
          go_wp2
          go_ret
          rw [HR.out]
          exact ⟨by simp [H4.out], B0⟩
      · have e3 : (s == 0) = false := by simpa using c3
        have H3 := Lib.hid c3
        clear c3
        go_enter Try.func27, Try.ntmps27
        go_wp2
        go_ret
        rw [HR.out]
        exact ⟨by simp [H3.out], B0⟩
    · go_enter Try.func27, Try.ntmps27
      go_wp2
      go_ret
      rw [HR.out]
      exact ⟨by rw [decide_eq_false (show ¬ t ≤ 510 by omega)]; simp, B0⟩
  · go_enter Try.func27, Try.ntmps27
    go_wp2
    go_ret
    rw [HR.out]
    exact ⟨by rw [decide_eq_false (show ¬ 0 ≤ t by omega)]; simp, B0⟩

set_option maxHeartbeats 2000000 in
theorem may_k2 (q t : Int) (ah : Option Addr) (n ch : Nat) (am : Option Addr) (m cm : Nat) (s : Int) (r24 r28 : Bool) (w : World) (hn : n ≤ 100000) (hm : m ≤ 100000)
    (HC : Hid (∀ W, Below w.heap.size w W → Calls Try.prog 45 #[.slice ah n ch, .int .i64 24] W fun e w' => e = .returned (.bool r24) ∧ W = w')) :
    Calls Try.prog 27 #[rv 2 q t ah n ch am m cm s] w fun e w' => e = .returned (.bool (rokB 2 t n m s r24 r28)) ∧ Below w.heap.size w w' := by
  have B0 := (Below.refl w.heap.size w).alloc (Nat.le_refl _) (.cells (rcells 2 q t ah n ch am m cm s) 27)
  have HR : Hid (rokB 2 t n m s r24 r28 = (decide (t = 0) && (decide (s = 0) && (r24 && decide (m = n))))) := rfl
  by_cases c1 : t = 0
  · subst c1
    by_cases c3 : s = 0
    · subst c3
      cases r24
      all_goals
        go_enter Try.func27, Try.ntmps27
        go_wp2_with fail
        refine (HC.out _ B0).mono ?_
        rintro e w4 ⟨rfl, rfl⟩
        go_wp2_with fail
        go_ret
        rw [HR.out]
        exact ⟨by simp [int_eq_nat], B0⟩
    · have e3 : (s == 0) = false := by simpa using c3
      have H3 := Lib.hid c3
      clear c3
      go_enter Try.func27, Try.ntmps27
      go_wp2
      go_ret
      rw [HR.out]
      exact ⟨by simp [H3.out], B0⟩
  · have e1 : (t == 0) = false := by simpa using c1
    have H1 := Lib.hid c1
    clear c1
    go_enter Try.func27, Try.ntmps27
    go_wp2
    go_ret
    rw [HR.out]
    exact ⟨by simp [H1.out], B0⟩

set_option maxHeartbeats 2000000 in
theorem may_k3 (q t : Int) (ah : Option Addr) (n ch : Nat) (am : Option Addr) (m cm : Nat) (s : Int) (r24 r28 : Bool) (w : World) (hn : n ≤ 100000) (hm : m ≤ 100000)
    (HC : Hid (∀ W, Below w.heap.size w W → Calls Try.prog 45 #[.slice ah n ch, .int .i64 28] W fun e w' => e = .returned (.bool r28) ∧ W = w')) :
    Calls Try.prog 27 #[rv 3 q t ah n ch am m cm s] w fun e w' => e = .returned (.bool (rokB 3 t n m s r24 r28)) ∧ Below w.heap.size w w' := by
  have B0 := (Below.refl w.heap.size w).alloc (Nat.le_refl _) (.cells (rcells 3 q t ah n ch am m cm s) 27)
  have HR : Hid (rokB 3 t n m s r24 r28 = (decide (t = 0) && (decide (s = 0) && (r28 && decide (m = 0))))) := rfl
  by_cases c1 : t = 0
  · subst c1
    by_cases c3 : s = 0
    · subst c3
      cases r28
      all_goals
        go_enter Try.func27, Try.ntmps27
        go_wp2_with fail
        refine (HC.out _ B0).mono ?_
        rintro e w4 ⟨rfl, rfl⟩
        go_wp2_with fail
        go_ret
        rw [HR.out]
        exact ⟨by simp [int_eq_lit], B0⟩
    · have e3 : (s == 0) = false := by simpa using c3
      have H3 := Lib.hid c3
      clear c3
      go_enter Try.func27, Try.ntmps27
      go_wp2
      go_ret
      rw [HR.out]
      exact ⟨by simp [H3.out], B0⟩
  · have e1 : (t == 0) = false := by simpa using c1
    have H1 := Lib.hid c1
    clear c1
    go_enter Try.func27, Try.ntmps27
    go_wp2
    go_ret
    rw [HR.out]
    exact ⟨by simp [H1.out], B0⟩

set_option maxHeartbeats 2000000 in
theorem may_k4 (q t : Int) (ah : Option Addr) (n ch : Nat) (am : Option Addr) (m cm : Nat) (s : Int) (r24 r28 : Bool) (w : World) (hn : n ≤ 100000) (hm : m ≤ 100000) :
    Calls Try.prog 27 #[rv 4 q t ah n ch am m cm s] w fun e w' => e = .returned (.bool (rokB 4 t n m s r24 r28)) ∧ Below w.heap.size w w' := by
  have B0 := (Below.refl w.heap.size w).alloc (Nat.le_refl _) (.cells (rcells 4 q t ah n ch am m cm s) 27)
  have HR : Hid (rokB 4 t n m s r24 r28 = (decide (t = 0) && (decide (n = 0) && decide (m = 0)))) := rfl
  by_cases c1 : t = 0
  · subst c1
    by_cases c4 : n = 0
    · subst c4
      go_enter Try.func27, Try.ntmps27
      go_wp2
      go_ret
      rw [HR.out]
      exact ⟨by simp [int_eq_lit], B0⟩
    · have e4 : ((n : Int) == 0) = false := by rw [int_eq_lit]; simpa using c4
      have H4 := Lib.hid c4
      clear c4
      go_enter Try.func27, Try.ntmps27
      go_wp2
      go_ret
      rw [HR.out]
      exact ⟨by simp [H4.out], B0⟩
  · have e1 : (t == 0) = false := by simpa using c1
    have H1 := Lib.hid c1
    clear c1
    go_enter Try.func27, Try.ntmps27
    go_wp2
    go_ret
    rw [HR.out]
    exact ⟨by simp [H1.out], B0⟩

set_option maxHeartbeats 2000000 in
theorem may_other (k q t : Int) (h1 : k ≠ 1) (h2 : k ≠ 2) (h3 : k ≠ 3) (h4 : k ≠ 4) (ah : Option Addr) (n ch : Nat) (am : Option Addr) (m cm : Nat) (s : Int) (r24 r28 : Bool) (w : World) :
    Calls Try.prog 27 #[rv k q t ah n ch am m cm s] w fun e w' => e = .returned (.bool (rokB k t n m s r24 r28)) ∧ Below w.heap.size w w' := by
  have B0 := (Below.refl w.heap.size w).alloc (Nat.le_refl _) (.cells (rcells k q t ah n ch am m cm s) 27)
  have HR : Hid (rokB k t n m s r24 r28 = false) := by
    show _ = _
    simp [rokB, h1, h2, h3, h4]
  have e1 : (k == 1) = false := by simpa using h1
  have e2 : (k == 2) = false := by simpa using h2
  have e3 : (k == 3) = false := by simpa using h3
  have e4 : (k == 4) = false := by simpa using h4
  clear h1 h2 h3 h4
  go_enter Try.func27, Try.ntmps27
  go_wp2
  go_ret
  rw [HR.out]
  exact ⟨rfl, B0⟩

theorem rok_eq (x : Rc) : x.ok = rokB x.k x.at_ x.hs.length x.ms.length x.sum (homesOk x.hs 24) (homesOk x.hs 28) := rfl

/-- a record's slices -/
def RcS (w : World) (x : Rc) (ah am : Option Addr) : Prop := ValS w ah (x.hs.map (Value.int .i64)) ∧ ValS w am (x.ms.map Value.bool)
theorem RcS.below {w w' : World} {K : Nat} {x : Rc} {ah am : Option Addr} (h : RcS w x ah am) (hb : Below K w w') (hK : w.heap.size ≤ K) : RcS w' x ah am := ⟨h.1.below hb hK, h.2.below hb hK⟩
theorem RcS.alloc {w : World} {x : Rc} {ah am : Option Addr} (h : RcS w x ah am) (o : Obj) : RcS (w.alloc o) x ah am := ⟨h.1.alloc o, h.2.alloc o⟩

theorem may08_any (x : Rc) (ah : Option Addr) (ch : Nat) (am : Option Addr) (cm : Nat) (w : World) (hn : x.hs.length ≤ 100000) (hm : x.ms.length ≤ 100000) (hS : RcS w x ah am) :
    Calls Try.prog 27 #[rcV x ah ch am cm] w fun e w' => e = .returned (.bool x.ok) ∧ Below w.heap.size w w' := by
  have HC := fun (most : Int) => Lib.hid (fun W (hb : Below w.heap.size w W) => homes_any ch most W hn (hS.1.below hb (Nat.le_refl _)))
  rw [rok_eq]
  by_cases c1 : x.k = 1
  · rw [rcV, c1]; exact may_k1 _ _ _ _ _ _ _ _ _ _ _ w hn hm
  · by_cases c2 : x.k = 2
    · rw [rcV, c2]; exact may_k2 _ _ _ _ _ _ _ _ _ _ _ w hn hm (HC 24)
    · by_cases c3 : x.k = 3
      · rw [rcV, c3]; exact may_k3 _ _ _ _ _ _ _ _ _ _ _ w hn hm (HC 28)
      · by_cases c4 : x.k = 4
        · rw [rcV, c4]; exact may_k4 _ _ _ _ _ _ _ _ _ _ _ w hn hm
        · exact may_other x.k _ _ c1 c2 c3 c4 _ _ _ _ _ _ _ _ _ w

end Go.Proofs.Ytfgnemddamebaaa
