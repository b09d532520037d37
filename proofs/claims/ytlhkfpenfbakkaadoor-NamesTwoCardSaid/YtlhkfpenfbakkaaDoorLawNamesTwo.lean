/- For every input the law glissadelaw13.NamesTwo returns true; within the sizes that the law itself asks; else it returns true at once; a tied card: two package variables of unicode/utf8 are laid as the text lays them; the card speaks of a pruned copy of the project. -/
import Derived.BigQuiet
import Derived.Deep.QuietTactic
import Derived.Deep.RegionHeld3
import Derived.Laws.AppendOwnNone
import Derived.SevenTiedAt
import Derived.Test.YtlhkfpenfbakkaaDoorNamLaw2
import Derived.Test.YtlhkfpenfbakkaaDoorGotStrs
import Derived.Test.YtlhkfpenfbakkaaDoorTie
import Derived.Test.YtlhkfpenfbakkaaDoorCards
import Derived.Test.YtlhkfpenfbakkaaDoorFrameL
set_option linter.unusedVariables false
set_option linter.unusedSimpArgs false
set_option maxRecDepth 100000
namespace Go.Proofs.YtlhkfpenfbakkaaDoor
open Go.RowKit Go.Joins

theorem split_list (s : ByteArray) : ∃ (m : List ByteArray) (z : Int), splitP (bts s) = (m.map bts, z) := by
  refine ⟨(splitP (bts s)).1.map tx, (splitP (bts s)).2, Prod.ext ?_ rfl⟩
  rw [List.map_map]
  have : (bts ∘ tx) = id := funext fun l => tx_bts l
  rw [this]; simp
theorem split_short {s : ByteArray} {m : List ByteArray} {z : Int} (h : splitP (bts s) = (m.map bts, z)) : m.length ≤ 16 := by
  rcases splitP_two (bts s) with h2 | h2 | h2
  · have h3 := splitP_ok h2
    rw [h] at h3
    have := h3.1.2.1
    simpa using this
  · rw [h] at h2
    injection h2 with h2 _
    have := congrArg List.length h2
    rw [List.length_map, List.length_nil] at this
    omega
  · rw [h] at h2
    injection h2 with h2 _
    have := congrArg List.length h2
    rw [List.length_map, List.length_nil] at this
    omega

theorem append_on {P : Program} {w : World} {ops : Array Oper} {rest : List Oper} {o : Oper} {a : Act} {Q : Exit → Act → World → Prop} (hw : Region.wanted o (yielded ops a.tmps) = true) (s x : Operand) (t : TypeId)
    (ho : o.op = .call { callee := .builtin .append, args := #[s, x], argTypes := #[t, t] })
    (base : Nat) (e : TypeId) (i : TypeInfo) (z : Value) (size bytes : Nat) (ht : P.underlying t = some (.slice e)) (hi : P.info? e = some i) (hz : i.zero = some z)
    (hsize : i.size = size) (hby : i.bytes = bytes) (hzs : z.cells.size = size) (hsz : 0 < size)
    (v : Value) (n : Nat) (xs : List Value) (hs : a.eval s = v) (hown : w.ownsRow base e size v n xs)
    (ad : Addr) (m c : Nat) (news : List Value) (hx : a.eval x = .slice (some ad) m c) (hl : news.length = m * size) (hnews : ∀ j u, news[j]? = some u → w.cell? (ad.add j) = some u) (h1 : ∀ u ∈ news, u.oneCell' = true)
    (h63 : n + m ≤ maxLen) (hbytes : (n + m) * bytes ≤ 140737488355328) (hbase : base ≤ w.heap.size)
    (h : ∀ v' w', w'.ownsRow base e size v' (n + m) (xs ++ news) → w.grownBy w' v.ownBlock → wpList P ops Q rest (a.put o.dst v') w') : wpList P ops Q (o :: rest) a w :=
  wpList_step fun K hK => by
    rw [if_pos hw]
    exact wp_append_own w s x t ho base e i z size bytes ht hi hz hsize hby hzs hsz v n xs hs hown ad m c news hx hl hnews h1 h63 hbytes hbase fun v' w' h2 h3 _ => hK _ _ (h v' w' h2 h3)
theorem strs_one (l : List ByteArray) : ∀ u ∈ strs l, u.oneCell' = true := by
  intro u hu
  rw [strs, List.mem_map] at hu
  obtain ⟨x, _, rfl⟩ := hu
  rfl
theorem two_ok {xs ys : List (List UInt8)} (h1 : PathOk xs) (h2 : PathOk ys) (n1 : xs ≠ []) (n2 : ys ≠ []) : splitP (pathS xs ++ pathS ys) = (if 256 < (pathS xs).length + (pathS ys).length then ([], 3) else if 16 < xs.length + ys.length then ([], 3) else (xs ++ ys, 0)) := by
  have e1 : pathS xs = flat xs := by rw [pathS, if_neg n1]
  have e2 : pathS ys = flat ys := by rw [pathS, if_neg n2]
  have hall : (xs ++ ys).all nmOk = true := by rw [List.all_append, h1.1, h2.1]; rfl
  rw [e1, e2, ← flat_append]
  have hlen : (flat (xs ++ ys)).length = (flat xs).length + (flat ys).length := by rw [flat_append, List.length_append]
  split
  · exact splitP_long (by omega)
  · cases xs with
    | nil => exact absurd rfl n1
    | cons x xs =>
      have hx : nmOk x = true := by have := h1.1; rw [List.all_cons, Bool.and_eq_true] at this; exact this.1
      have hx1 := (nmOk_iff.1 hx).1
      rw [List.cons_append] at hlen hall ⊢
      rw [splitP_flat x (xs ++ ys) (all_slash hall) (by omega) (by intro q; rw [List.append_eq_nil_iff] at q; rw [q.1] at hx1; simp at hx1), if_pos hall]
      simp only [List.length_cons, List.length_append]
      by_cases h16 : 16 < xs.length + 1 + ys.length
      · rw [if_pos (by omega), if_pos h16]
      · rw [if_neg (by omega), if_neg h16]
theorem two_gap {xs ys : List (List UInt8)} (h1 : PathOk xs) (h2 : PathOk ys) (n1 : xs ≠ []) (n2 : ys ≠ []) : splitP (pathS xs ++ 47 :: pathS ys) = (if 256 ≤ (pathS xs).length + (pathS ys).length then ([], 3) else ([], 130)) := by
  have e1 : pathS xs = flat xs := by rw [pathS, if_neg n1]
  have e2 : pathS ys = flat ys := by rw [pathS, if_neg n2]
  have e3 : flat xs ++ 47 :: flat ys = flat (xs ++ [] :: ys) := by rw [flat_append, flat]; rfl
  have hno : (xs ++ [] :: ys).all nmOk = false := by
    rw [List.all_append, List.all_cons]
    simp [nmOk]
  rw [e1, e2, e3]
  have hlen : (flat (xs ++ [] :: ys)).length = (flat xs).length + (flat ys).length + 1 := by rw [← e3, List.length_append, List.length_cons]; omega
  split
  · exact splitP_long (by omega)
  · cases xs with
    | nil => exact absurd rfl n1
    | cons x xs =>
      have hx : nmOk x = true := by have := h1.1; rw [List.all_cons, Bool.and_eq_true] at this; exact this.1
      have hx1 := (nmOk_iff.1 hx).1
      rw [List.cons_append] at hlen hno ⊢
      have hsl : ∀ y ∈ x :: (xs ++ [] :: ys), (47 : UInt8) ∉ y := by
        intro y hy
        have a1 := all_slash h1.1
        have a2 := all_slash h2.1
        rw [List.mem_cons, List.mem_append, List.mem_cons] at hy
        rcases hy with rfl | hy | rfl | hy
        · exact a1 _ (by simp)
        · exact a1 _ (List.mem_cons_of_mem _ hy)
        · simp
        · exact a2 _ hy
      rw [splitP_flat x (xs ++ [] :: ys) hsl (by omega) (by intro q; rw [List.append_eq_nil_iff] at q; rw [q.1] at hx1; simp at hx1), if_neg (by rw [hno]; simp)]
theorem bts_app (a b : ByteArray) : bts (a ++ b) = bts a ++ bts b := by simp [bts]

set_option maxHeartbeats 8000000 in
theorem walk_namesTwo (w : World) (a : ByteArray) (hsa : a.size ≤ 140737488351232) (b : ByteArray) (hsb : b.size ≤ 140737488351232) :
    Calls Tryd.prog 7 #[.string a, .string b] w fun e w' => e = .returned (.bool true) ∧ Below w.heap.size w w' := by
  have B0 : Below w.heap.size w w := Below.refl _ _
  clear hsa hsb
  by_cases h1 : 5000 < a.size
  · have h1' : (5000 : Int) < (a.size : Int) := by omega
    go_enter Tryd.func7, Tryd.ntmps7
    go_wp2_with fail
    go_ret
    exact ⟨rfl, B0⟩
  have h1' : ¬ (5000 : Int) < (a.size : Int) := by omega
  by_cases h2 : 5000 < b.size
  · have h2' : (5000 : Int) < (b.size : Int) := by omega
    go_enter Tryd.func7, Tryd.ntmps7
    go_wp2_with fail
    go_ret
    exact ⟨rfl, B0⟩
  have h2' : ¬ (5000 : Int) < (b.size : Int) := by omega
  obtain ⟨m, z1, hm⟩ := split_list a
  obtain ⟨n, z2, hn⟩ := split_list b
  have HS1 := Lib.hid (fun W => csplit_is hm W)
  have HS2 := Lib.hid (fun W => csplit_is hn W)
  have hml := split_short hm
  have hnl := split_short hn
  by_cases k1 : z1 = 0
  · subst k1
    by_cases k2 : z2 = 0
    · subst k2
      by_cases k3 : m = []
      · subst k3
        clear hm hn hml hnl
        go_enter Tryd.func7, Tryd.ntmps7
        go_wp2_with fail
        refine (HS1.out _).mono ?_
        rintro e w1 ⟨⟨a1, c1, rfl, h11, h12, hn1⟩, hb1⟩
        have B1 := below_chain B0 hb1 B0.size
        have HN1 := Lib.hid hn1
        clear hb1 B0 hn1 HS1
        go_wp2_with fail
        refine (HS2.out _).mono ?_
        rintro e w2 ⟨⟨a2, c2, rfl, h21, h22, hn2⟩, hb2⟩
        have B2 := below_chain B1 hb2 B1.size
        have HN1 := Lib.hid (HN1.out.below hb2 (Nat.le_refl _))
        have HN2 := Lib.hid hn2
        clear hb2 B1 hn2 HS2
        have BB := B2
        clear B2 HN1 HN2
        go_wp2_with fail
        refine (alive13 _).mono ?_
        rintro e w7 ⟨rfl, hb7⟩
        have B7 := below_chain BB hb7 BB.size
        go_wp2_with fail
        go_ret
        exact ⟨rfl, B7⟩
      by_cases k4 : n = []
      · subst k4
        have hmq : ((m.length : Int) == 0) = false := by
          rw [beq_eq_false_iff_ne]
          intro e
          exact k3 (List.length_eq_zero_iff.1 (by omega))
        clear hm hn hml hnl k3
        go_enter Tryd.func7, Tryd.ntmps7
        go_wp2_with fail
        refine (HS1.out _).mono ?_
        rintro e w1 ⟨⟨a1, c1, rfl, h11, h12, hn1⟩, hb1⟩
        have B1 := below_chain B0 hb1 B0.size
        have HN1 := Lib.hid hn1
        clear hb1 B0 hn1 HS1
        go_wp2_with fail
        refine (HS2.out _).mono ?_
        rintro e w2 ⟨⟨a2, c2, rfl, h21, h22, hn2⟩, hb2⟩
        have B2 := below_chain B1 hb2 B1.size
        have HN1 := Lib.hid (HN1.out.below hb2 (Nat.le_refl _))
        have HN2 := Lib.hid hn2
        clear hb2 B1 hn2 HS2
        have BB := B2
        clear B2 HN1 HN2
        go_wp2_with fail
        refine (alive13 _).mono ?_
        rintro e w7 ⟨rfl, hb7⟩
        have B7 := below_chain BB hb7 BB.size
        go_wp2_with fail
        go_ret
        exact ⟨rfl, B7⟩
      have hmq : ((m.length : Int) == 0) = false := by
        rw [beq_eq_false_iff_ne]
        intro e
        exact k3 (List.length_eq_zero_iff.1 (by omega))
      have hnq : ((n.length : Int) == 0) = false := by
        rw [beq_eq_false_iff_ne]
        intro e
        exact k4 (List.length_eq_zero_iff.1 (by omega))
      obtain ⟨P1, E1⟩ := splitP_ok hm
      obtain ⟨P2, E2⟩ := splitP_ok hn
      have n1 : m.map bts ≠ [] := by simpa using k3
      have n2 : n.map bts ≠ [] := by simpa using k4
      have la : (pathS (m.map bts)).length = a.size := by rw [← E1, bts_length]
      have lb : (pathS (n.map bts)).length = b.size := by rw [← E2, bts_length]
      have sAB : splitP (bts (a ++ b)) = (if 256 < a.size + b.size then ([], 3) else if 16 < m.length + n.length then ([], 3) else ((m ++ n).map bts, 0)) := by
        rw [bts_app, E1, E2, two_ok P1 P2 n1 n2, la, lb, List.length_map, List.length_map, List.map_append]
      have sAGB : splitP (bts (a ++ ⟨#[47]⟩ ++ b)) = (if 256 ≤ a.size + b.size then ([], 3) else ([], 130)) := by
        rw [bts_app, bts_app, E1, E2, show bts ⟨#[47]⟩ = [47] from rfl, List.append_assoc, show [47] ++ pathS (n.map bts) = 47 :: pathS (n.map bts) from rfl, two_gap P1 P2 n1 n2, la, lb]
      have o1 : (⟨#[47]⟩ : ByteArray).size = 1 := rfl
      have hm1 : ¬ maxLen < a.size + b.size := by unfold maxLen; omega
      have hm2 : ¬ maxLen < a.size + (⟨#[47]⟩ : ByteArray).size := by rw [o1]; unfold maxLen; omega
      have hm3 : ¬ maxLen < (a ++ ⟨#[47]⟩).size + b.size := by rw [ByteArray.size_append, o1]; unfold maxLen; omega
      have hm4 : ¬ maxLen < a.size + 1 := by unfold maxLen; omega
      have hm5 : ¬ maxLen < a.size + 1 + b.size := by unfold maxLen; omega
      have hw : IntKind.i64.wrap ((a.size : Int) + (b.size : Int)) = (a.size : Int) + (b.size : Int) := IntWalk.i64_in _ (by omega)
      have hw2 : IntKind.i64.wrap ((m.length : Int) + (n.length : Int)) = (m.length : Int) + (n.length : Int) := IntWalk.i64_in _ (by omega)
      clear hm hn P1 P2 E1 E2 n1 n2 la lb o1 k3 k4
      by_cases c256 : 256 < a.size + b.size
      · rw [if_pos c256] at sAB
        rw [if_pos (by omega)] at sAGB
        have HA := Lib.hid (fun W => csplit_is (m := []) sAB W)
        have HB := Lib.hid (fun W => csplit_is (m := []) sAGB W)
        have t1 : (256 : Int) < (a.size : Int) + (b.size : Int) := by omega
        clear sAB sAGB c256 hml hnl
        go_enter Tryd.func7, Tryd.ntmps7
        go_wp2_with fail
        refine (HS1.out _).mono ?_
        rintro e w1 ⟨⟨a1, c1, rfl, h11, h12, hn1⟩, hb1⟩
        have B1 := below_chain B0 hb1 B0.size
        have HN1 := Lib.hid hn1
        clear hb1 B0 hn1 HS1
        go_wp2_with fail
        refine (HS2.out _).mono ?_
        rintro e w2 ⟨⟨a2, c2, rfl, h21, h22, hn2⟩, hb2⟩
        have B2 := below_chain B1 hb2 B1.size
        have HN1 := Lib.hid (HN1.out.below hb2 (Nat.le_refl _))
        have HN2 := Lib.hid hn2
        clear hb2 B1 hn2 HS2
        go_wp2_with fail
        refine (HA.out _).mono ?_
        rintro e w3 ⟨⟨a3, c3, rfl, h31, h32, hn3⟩, hb3⟩
        have B3 := below_chain B2 hb3 B2.size
        have HN1 := Lib.hid (HN1.out.below hb3 (Nat.le_refl _))
        have HN2 := Lib.hid (HN2.out.below hb3 (Nat.le_refl _))
        have HN3 := Lib.hid hn3
        clear hb3 B2 hn3 HA
        go_wp2_with fail
        refine (HB.out _).mono ?_
        rintro e w4 ⟨⟨a4, c4, rfl, h41, h42, hn4⟩, hb4⟩
        have B4 := below_chain B3 hb4 B3.size
        have HN1 := Lib.hid (HN1.out.below hb4 (Nat.le_refl _))
        have HN2 := Lib.hid (HN2.out.below hb4 (Nat.le_refl _))
        have HN3 := Lib.hid (HN3.out.below hb4 (Nat.le_refl _))
        clear hb4 B3 hn4 HB
        have BB := B4
        clear B4 HN1 HN2 HN3
        go_wp2_with fail
        refine (alive13 _).mono ?_
        rintro e w7 ⟨rfl, hb7⟩
        have B7 := below_chain BB hb7 BB.size
        go_wp2_with fail
        go_ret
        exact ⟨rfl, B7⟩
      have t1 : ¬ (256 : Int) < (a.size : Int) + (b.size : Int) := by omega
      rw [if_neg c256] at sAB
      by_cases c16 : 16 < m.length + n.length
      · rw [if_pos c16] at sAB
        have t2 : (16 : Int) < (m.length : Int) + (n.length : Int) := by omega
        have HA := Lib.hid (fun W => csplit_is (m := []) sAB W)
        obtain ⟨zz, hzz⟩ : ∃ zz, splitP (bts (a ++ ⟨#[47]⟩ ++ b)) = (([] : List ByteArray).map bts, zz) := by
          rw [sAGB]
          split
          · exact ⟨3, rfl⟩
          · exact ⟨130, rfl⟩
        have HB := Lib.hid (fun W => csplit_is (m := []) hzz W)
        clear sAB sAGB hzz c256 c16 hml hnl
        go_enter Tryd.func7, Tryd.ntmps7
        go_wp2_with fail
        refine (HS1.out _).mono ?_
        rintro e w1 ⟨⟨a1, c1, rfl, h11, h12, hn1⟩, hb1⟩
        have B1 := below_chain B0 hb1 B0.size
        have HN1 := Lib.hid hn1
        clear hb1 B0 hn1 HS1
        go_wp2_with fail
        refine (HS2.out _).mono ?_
        rintro e w2 ⟨⟨a2, c2, rfl, h21, h22, hn2⟩, hb2⟩
        have B2 := below_chain B1 hb2 B1.size
        have HN1 := Lib.hid (HN1.out.below hb2 (Nat.le_refl _))
        have HN2 := Lib.hid hn2
        clear hb2 B1 hn2 HS2
        go_wp2_with fail
        refine (HA.out _).mono ?_
        rintro e w3 ⟨⟨a3, c3, rfl, h31, h32, hn3⟩, hb3⟩
        have B3 := below_chain B2 hb3 B2.size
        have HN1 := Lib.hid (HN1.out.below hb3 (Nat.le_refl _))
        have HN2 := Lib.hid (HN2.out.below hb3 (Nat.le_refl _))
        have HN3 := Lib.hid hn3
        clear hb3 B2 hn3 HA
        go_wp2_with fail
        refine (HB.out _).mono ?_
        rintro e w4 ⟨⟨a4, c4, rfl, h41, h42, hn4⟩, hb4⟩
        have B4 := below_chain B3 hb4 B3.size
        have HN1 := Lib.hid (HN1.out.below hb4 (Nat.le_refl _))
        have HN2 := Lib.hid (HN2.out.below hb4 (Nat.le_refl _))
        have HN3 := Lib.hid (HN3.out.below hb4 (Nat.le_refl _))
        clear hb4 B3 hn4 HB
        have BB := B4
        clear B4 HN1 HN2 HN3
        go_wp2_with fail
        refine (alive13 _).mono ?_
        rintro e w7 ⟨rfl, hb7⟩
        have B7 := below_chain BB hb7 BB.size
        go_wp2_with fail
        go_ret
        exact ⟨rfl, B7⟩
      rw [if_neg c16] at sAB
      have t2 : ¬ (16 : Int) < (m.length : Int) + (n.length : Int) := by omega
      have HA := Lib.hid (fun W => csplit_is (m := m ++ n) sAB W)
      have hlen : (m ++ n).length = m.length + n.length := by simp
      have w9 : ((m ++ n).length : Int) ≤ 16 := by omega
      have HK := Lib.hid (And.intro hmq hnq)
      obtain ⟨i0, hi0, hz0, hz1, hz2⟩ := info_parts info_str
      have HI := Lib.hid (And.intro hi0 (And.intro hz0 (And.intro hz1 hz2)))
      clear hi0 hz0 hz1 hz2
      by_cases cE : a.size + b.size = 256
      · rw [if_pos (by omega)] at sAGB
        have HB := Lib.hid (fun W => csplit_is (m := []) sAGB W)
        have t3 : (a.size : Int) + (b.size : Int) = 256 := by omega
        have t4 : ((a.size : Int) + (b.size : Int) == 256) = true := by rw [beq_iff_eq]; omega
        clear sAB sAGB c256 c16 cE
        go_enter Tryd.func7, Tryd.ntmps7
        go_wp2_with fail
        refine (HS1.out _).mono ?_
        rintro e w1 ⟨⟨a1, c1, rfl, h11, h12, hn1⟩, hb1⟩
        have B1 := below_chain B0 hb1 B0.size
        have HN1 := Lib.hid hn1
        clear hb1 B0 hn1 HS1
        go_wp2_with fail
        refine (HS2.out _).mono ?_
        rintro e w2 ⟨⟨a2, c2, rfl, h21, h22, hn2⟩, hb2⟩
        have B2 := below_chain B1 hb2 B1.size
        have HN1 := Lib.hid (HN1.out.below hb2 (Nat.le_refl _))
        have HN2 := Lib.hid hn2
        clear hb2 B1 hn2 HS2
        go_wp2_with fail
        refine (HA.out _).mono ?_
        rintro e w3 ⟨⟨a3, c3, rfl, h31, h32, hn3⟩, hb3⟩
        have B3 := below_chain B2 hb3 B2.size
        have HN1 := Lib.hid (HN1.out.below hb3 (Nat.le_refl _))
        have HN2 := Lib.hid (HN2.out.below hb3 (Nat.le_refl _))
        have HN3 := Lib.hid hn3
        clear hb3 B2 hn3 HA
        go_wp2_with fail
        refine (HB.out _).mono ?_
        rintro e w4 ⟨⟨a4, c4, rfl, h41, h42, hn4⟩, hb4⟩
        have B4 := below_chain B3 hb4 B3.size
        have HN1 := Lib.hid (HN1.out.below hb4 (Nat.le_refl _))
        have HN2 := Lib.hid (HN2.out.below hb4 (Nat.le_refl _))
        have HN3 := Lib.hid (HN3.out.below hb4 (Nat.le_refl _))
        clear hb4 B3 hn4 HB
        have hg1 : ∃ g, a1 = some ⟨g, 0, none⟩ ∧ RowAt w4 g (strs m) := by
          rcases HN1.out with h | ⟨g, q1, _, q3⟩
          · have h2 := congrArg List.length h
            rw [strs_len] at h2
            have := HK.out.1
            rw [show m.length = 0 from by simpa using h2] at this
            simp at this
          · exact ⟨g, q1, q3⟩
        have hg2 : ∃ g, a2 = some ⟨g, 0, none⟩ ∧ RowAt w4 g (strs n) := by
          rcases HN2.out with h | ⟨g, q1, _, q3⟩
          · have h2 := congrArg List.length h
            rw [strs_len] at h2
            have := HK.out.2
            rw [show n.length = 0 from by simpa using h2] at this
            simp at this
          · exact ⟨g, q1, q3⟩
        have hg3 : ∃ g, a3 = some ⟨g, 0, none⟩ ∧ RowAt w4 g (strs (m ++ n)) := by
          rcases HN3.out with h | ⟨g, q1, _, q3⟩
          · have h2 := congrArg List.length h
            rw [strs_len, hlen] at h2
            have := HK.out.1
            rw [show m.length = 0 from by rw [List.length_nil] at h2; omega] at this
            simp at this
          · exact ⟨g, q1, q3⟩
        obtain ⟨g3, rfl, R3⟩ := hg3
        have HR3 := Lib.hid R3
        obtain ⟨g1, rfl, R1⟩ := hg1
        obtain ⟨g2, rfl, R2⟩ := hg2
        have HR1 := Lib.hid R1
        have HR2 := Lib.hid R2
        have HM : Hid ((w4.alloc (.cells #[] 9)).ownsRow w4.heap.size 9 1 (.slice (some ⟨w4.heap.size, 0, none⟩) 0 0) 0 []) := ⟨rfl, .inr ⟨w4.heap.size, 0, #[], rfl, Nat.le_refl _, by show (w4.heap.push _)[w4.heap.size]? = _; simp, Nat.le_refl _, Nat.zero_le _, rfl, rfl⟩⟩
        have BA := B4.alloc B4.size (.cells #[] 9)
        clear R1 R2 R3 HN1 HN2 HN3
        go_wp2_with (at_builtin; refine append_on (by first | rfl | (simp [Region.wanted, yielded]; done)) _ _ 22 rfl w4.heap.size 9 i0 (.string ⟨#[]⟩) 1 16 Tryd.underlying22 HI.out.1 HI.out.2.1 HI.out.2.2.1 HI.out.2.2.2 rfl (by decide) _ 0 [] rfl HM.out ⟨g1, 0, none⟩ m.length c1 (strs m) rfl (by rw [strs_len, Nat.mul_one]) (row_news4 (HR1.out.alloc _)) (strs_one m) (by unfold maxLen; omega) (by omega) (by simp) ?_)
        intro v5 w5 own5 grow5
        have HO5 : Hid (w5.ownsRow w4.heap.size 9 1 v5 m.length (strs m)) := by exact own5
        have HL5 := Lib.hid (fun j hj => World.ownsRow.lt HO5.out j hj)
        have hs5 : w4.heap.size ≤ w5.heap.size := Nat.le_trans (show w4.heap.size ≤ (w4.alloc (.cells #[] 9)).heap.size by simp) grow5.size
        have B5 := grown_below4 BA grow5 (fun j hj => by simp [Value.ownBlock] at hj; have := B4.size; omega) BA.size
        have hl2 := HR2.out.lt
        have HR25 := Lib.hid ((HR2.out.alloc (.cells #[] 9)).grown grow5 (by intro e; simp [Value.ownBlock] at e; omega))
        have hl3 := HR3.out.lt
        have HR35 := Lib.hid ((HR3.out.alloc (.cells #[] 9)).grown grow5 (by intro e; simp [Value.ownBlock] at e; omega))
        have hb45 := B4.size
        clear own5 grow5 HM HR1 HR2 HR3
        go_wp2_with (at_builtin; refine append_on (by first | rfl | (simp [Region.wanted, yielded]; done)) _ _ 22 rfl w4.heap.size 9 i0 (.string ⟨#[]⟩) 1 16 Tryd.underlying22 HI.out.1 HI.out.2.1 HI.out.2.2.1 HI.out.2.2.2 rfl (by decide) _ m.length _ rfl HO5.out ⟨g2, 0, none⟩ n.length c2 (strs n) rfl (by rw [strs_len, Nat.mul_one]) (row_news4 HR25.out) (strs_one n) (by unfold maxLen; omega) (by omega) hs5 ?_)
        intro v6 w6 own6 grow6
        have hmn : 0 < m.length := by
          have := HK.out.1
          rcases Nat.eq_zero_or_pos m.length with h | h
          · rw [h] at this; simp at this
          · exact h
        obtain ⟨g6, cap6, rfl, hg6, hc6, R6⟩ := own_full4 own6 (by omega)
        have B6 := grown_below4 B5 grow6 (fun j hj => by have := (HL5.out j hj).1; omega) B5.size
        have R6' : RowAt w6 g6 (strs (m ++ n)) := by rw [strs, List.map_append]; exact R6
        have R36 := HR35.out.grown grow6 (by intro e; have := (HL5.out _ e).1; omega)
        have hsm := same13 (some ⟨g3, 0, none⟩) (some ⟨g6, 0, none⟩) c3 cap6 (m ++ n) w6 (by omega) (.inr ⟨g3, 0, rfl, valAt_row R36⟩) (.inr ⟨g6, 0, rfl, valAt_row R6'⟩)
        rw [hlen] at hsm
        have HSm := Lib.hid hsm
        try rw [hlen]
        clear own6 grow6 R6 R6' hsm R36 HR35 HL5 HO5 HR25 B5 BA B4
        go_wp2_with fail
        refine HSm.out.mono ?_
        rintro e w8 ⟨rfl, hb8⟩
        have BB := below_chain B6 hb8 B6.size
        clear hb8 B6 HSm
        go_wp2_with fail
        refine (alive13 _).mono ?_
        rintro e w7 ⟨rfl, hb7⟩
        have B7 := below_chain BB hb7 BB.size
        go_wp2_with fail
        go_ret
        exact ⟨rfl, B7⟩
      · rw [if_neg (by omega)] at sAGB
        have HB := Lib.hid (fun W => csplit_is (m := []) sAGB W)
        clear sAB sAGB c256 c16 cE
        go_enter Tryd.func7, Tryd.ntmps7
        go_wp2_with fail
        refine (HS1.out _).mono ?_
        rintro e w1 ⟨⟨a1, c1, rfl, h11, h12, hn1⟩, hb1⟩
        have B1 := below_chain B0 hb1 B0.size
        have HN1 := Lib.hid hn1
        clear hb1 B0 hn1 HS1
        go_wp2_with fail
        refine (HS2.out _).mono ?_
        rintro e w2 ⟨⟨a2, c2, rfl, h21, h22, hn2⟩, hb2⟩
        have B2 := below_chain B1 hb2 B1.size
        have HN1 := Lib.hid (HN1.out.below hb2 (Nat.le_refl _))
        have HN2 := Lib.hid hn2
        clear hb2 B1 hn2 HS2
        go_wp2_with fail
        refine (HA.out _).mono ?_
        rintro e w3 ⟨⟨a3, c3, rfl, h31, h32, hn3⟩, hb3⟩
        have B3 := below_chain B2 hb3 B2.size
        have HN1 := Lib.hid (HN1.out.below hb3 (Nat.le_refl _))
        have HN2 := Lib.hid (HN2.out.below hb3 (Nat.le_refl _))
        have HN3 := Lib.hid hn3
        clear hb3 B2 hn3 HA
        go_wp2_with fail
        refine (HB.out _).mono ?_
        rintro e w4 ⟨⟨a4, c4, rfl, h41, h42, hn4⟩, hb4⟩
        have B4 := below_chain B3 hb4 B3.size
        have HN1 := Lib.hid (HN1.out.below hb4 (Nat.le_refl _))
        have HN2 := Lib.hid (HN2.out.below hb4 (Nat.le_refl _))
        have HN3 := Lib.hid (HN3.out.below hb4 (Nat.le_refl _))
        clear hb4 B3 hn4 HB
        have hg1 : ∃ g, a1 = some ⟨g, 0, none⟩ ∧ RowAt w4 g (strs m) := by
          rcases HN1.out with h | ⟨g, q1, _, q3⟩
          · have h2 := congrArg List.length h
            rw [strs_len] at h2
            have := HK.out.1
            rw [show m.length = 0 from by simpa using h2] at this
            simp at this
          · exact ⟨g, q1, q3⟩
        have hg2 : ∃ g, a2 = some ⟨g, 0, none⟩ ∧ RowAt w4 g (strs n) := by
          rcases HN2.out with h | ⟨g, q1, _, q3⟩
          · have h2 := congrArg List.length h
            rw [strs_len] at h2
            have := HK.out.2
            rw [show n.length = 0 from by simpa using h2] at this
            simp at this
          · exact ⟨g, q1, q3⟩
        have hg3 : ∃ g, a3 = some ⟨g, 0, none⟩ ∧ RowAt w4 g (strs (m ++ n)) := by
          rcases HN3.out with h | ⟨g, q1, _, q3⟩
          · have h2 := congrArg List.length h
            rw [strs_len, hlen] at h2
            have := HK.out.1
            rw [show m.length = 0 from by rw [List.length_nil] at h2; omega] at this
            simp at this
          · exact ⟨g, q1, q3⟩
        obtain ⟨g3, rfl, R3⟩ := hg3
        have HR3 := Lib.hid R3
        obtain ⟨g1, rfl, R1⟩ := hg1
        obtain ⟨g2, rfl, R2⟩ := hg2
        have HR1 := Lib.hid R1
        have HR2 := Lib.hid R2
        have HM : Hid ((w4.alloc (.cells #[] 9)).ownsRow w4.heap.size 9 1 (.slice (some ⟨w4.heap.size, 0, none⟩) 0 0) 0 []) := ⟨rfl, .inr ⟨w4.heap.size, 0, #[], rfl, Nat.le_refl _, by show (w4.heap.push _)[w4.heap.size]? = _; simp, Nat.le_refl _, Nat.zero_le _, rfl, rfl⟩⟩
        have BA := B4.alloc B4.size (.cells #[] 9)
        clear R1 R2 R3 HN1 HN2 HN3
        go_wp2_with (at_builtin; refine append_on (by first | rfl | (simp [Region.wanted, yielded]; done)) _ _ 22 rfl w4.heap.size 9 i0 (.string ⟨#[]⟩) 1 16 Tryd.underlying22 HI.out.1 HI.out.2.1 HI.out.2.2.1 HI.out.2.2.2 rfl (by decide) _ 0 [] rfl HM.out ⟨g1, 0, none⟩ m.length c1 (strs m) rfl (by rw [strs_len, Nat.mul_one]) (row_news4 (HR1.out.alloc _)) (strs_one m) (by unfold maxLen; omega) (by omega) (by simp) ?_)
        intro v5 w5 own5 grow5
        have HO5 : Hid (w5.ownsRow w4.heap.size 9 1 v5 m.length (strs m)) := by exact own5
        have HL5 := Lib.hid (fun j hj => World.ownsRow.lt HO5.out j hj)
        have hs5 : w4.heap.size ≤ w5.heap.size := Nat.le_trans (show w4.heap.size ≤ (w4.alloc (.cells #[] 9)).heap.size by simp) grow5.size
        have B5 := grown_below4 BA grow5 (fun j hj => by simp [Value.ownBlock] at hj; have := B4.size; omega) BA.size
        have hl2 := HR2.out.lt
        have HR25 := Lib.hid ((HR2.out.alloc (.cells #[] 9)).grown grow5 (by intro e; simp [Value.ownBlock] at e; omega))
        have hl3 := HR3.out.lt
        have HR35 := Lib.hid ((HR3.out.alloc (.cells #[] 9)).grown grow5 (by intro e; simp [Value.ownBlock] at e; omega))
        have hb45 := B4.size
        clear own5 grow5 HM HR1 HR2 HR3
        go_wp2_with (at_builtin; refine append_on (by first | rfl | (simp [Region.wanted, yielded]; done)) _ _ 22 rfl w4.heap.size 9 i0 (.string ⟨#[]⟩) 1 16 Tryd.underlying22 HI.out.1 HI.out.2.1 HI.out.2.2.1 HI.out.2.2.2 rfl (by decide) _ m.length _ rfl HO5.out ⟨g2, 0, none⟩ n.length c2 (strs n) rfl (by rw [strs_len, Nat.mul_one]) (row_news4 HR25.out) (strs_one n) (by unfold maxLen; omega) (by omega) hs5 ?_)
        intro v6 w6 own6 grow6
        have hmn : 0 < m.length := by
          have := HK.out.1
          rcases Nat.eq_zero_or_pos m.length with h | h
          · rw [h] at this; simp at this
          · exact h
        obtain ⟨g6, cap6, rfl, hg6, hc6, R6⟩ := own_full4 own6 (by omega)
        have B6 := grown_below4 B5 grow6 (fun j hj => by have := (HL5.out j hj).1; omega) B5.size
        have R6' : RowAt w6 g6 (strs (m ++ n)) := by rw [strs, List.map_append]; exact R6
        have R36 := HR35.out.grown grow6 (by intro e; have := (HL5.out _ e).1; omega)
        have hsm := same13 (some ⟨g3, 0, none⟩) (some ⟨g6, 0, none⟩) c3 cap6 (m ++ n) w6 (by omega) (.inr ⟨g3, 0, rfl, valAt_row R36⟩) (.inr ⟨g6, 0, rfl, valAt_row R6'⟩)
        rw [hlen] at hsm
        have HSm := Lib.hid hsm
        try rw [hlen]
        clear own6 grow6 R6 R6' hsm R36 HR35 HL5 HO5 HR25 B5 BA B4
        go_wp2_with fail
        refine HSm.out.mono ?_
        rintro e w8 ⟨rfl, hb8⟩
        have BB := below_chain B6 hb8 B6.size
        clear hb8 B6 HSm
        go_wp2_with fail
        refine (alive13 _).mono ?_
        rintro e w7 ⟨rfl, hb7⟩
        have B7 := below_chain BB hb7 BB.size
        go_wp2_with fail
        go_ret
        exact ⟨rfl, B7⟩
    · have q2 : (z2 != 0) = true := by rw [bne_iff_ne]; exact k2
      clear hm hn hml hnl k2
      go_enter Tryd.func7, Tryd.ntmps7
      go_wp2_with fail
      refine (HS1.out _).mono ?_
      rintro e w1 ⟨⟨a1, c1, rfl, h11, h12, hn1⟩, hb1⟩
      have B1 := below_chain B0 hb1 B0.size
      have HN1 := Lib.hid hn1
      clear hb1 B0 hn1 HS1
      go_wp2_with fail
      refine (HS2.out _).mono ?_
      rintro e w2 ⟨⟨a2, c2, rfl, h21, h22, hn2⟩, hb2⟩
      have B2 := below_chain B1 hb2 B1.size
      have HN1 := Lib.hid (HN1.out.below hb2 (Nat.le_refl _))
      have HN2 := Lib.hid hn2
      clear hb2 B1 hn2 HS2
      have BB := B2
      clear B2 HN1 HN2
      go_wp2_with fail
      refine (alive13 _).mono ?_
      rintro e w7 ⟨rfl, hb7⟩
      have B7 := below_chain BB hb7 BB.size
      go_wp2_with fail
      go_ret
      exact ⟨rfl, B7⟩
  · have q1 : (z1 != 0) = true := by rw [bne_iff_ne]; exact k1
    clear hm hn hml hnl k1
    go_enter Tryd.func7, Tryd.ntmps7
    go_wp2_with fail
    refine (HS1.out _).mono ?_
    rintro e w1 ⟨⟨a1, c1, rfl, h11, h12, hn1⟩, hb1⟩
    have B1 := below_chain B0 hb1 B0.size
    have HN1 := Lib.hid hn1
    clear hb1 B0 hn1 HS1
    go_wp2_with fail
    refine (HS2.out _).mono ?_
    rintro e w2 ⟨⟨a2, c2, rfl, h21, h22, hn2⟩, hb2⟩
    have B2 := below_chain B1 hb2 B1.size
    have HN1 := Lib.hid (HN1.out.below hb2 (Nat.le_refl _))
    have HN2 := Lib.hid hn2
    clear hb2 B1 hn2 HS2
    have BB := B2
    clear B2 HN1 HN2
    go_wp2_with fail
    refine (alive13 _).mono ?_
    rintro e w7 ⟨rfl, hb7⟩
    have B7 := below_chain BB hb7 BB.size
    go_wp2_with fail
    go_ret
    exact ⟨rfl, B7⟩

/-! ### the frame (printed by mklaw.py) -/

set_option maxRecDepth 100000 in
theorem lifted_namesTwo (os : Os) (started : os.Started) (H : Type) (enc : TypeId × Value → H) :
    ReturnsInHanded {} Tryd.checked os 7 .any (fun w args => (Rows.namesTwoSpec.pre enc Tryd.prog Tryd.f7 Rows.namesTwoRow.domain false w args ∧ laidMetH Tryd.prog Rows.namesTwoRow.laid w) ∧ sizedMet enc Tryd.prog Tryd.f7 (OpenSpec.ofChange Rows.namesTwoSpec) false w args) (Rows.namesTwoSpec.post enc Tryd.prog Tryd.f7 false true false false) := by
  refine law_step_laid (C := Tryd.checked) (tb := 4) (by kernel_rfl) (by kernel_rfl) started (by kernel_rfl) Tryd.func7 rfl Tryd.underlying4 rfl ?_ ?_
    (ChangeSpec.witness_shaped (enc := enc) (C := Tryd.checked) (os := os) (X := fun w _ => laidMetH Tryd.prog Rows.namesTwoRow.laid w) false (World.laidAll Tryd.prog os Rows.namesTwoRow.laid) #[.string ByteArray.empty, .string ByteArray.empty] 8 (World.laidAll_os _ _ _)
      (World.shaped_of_ZipB (by kernel_rfl) (by kernel_rfl)) (by kernel_rfl) (by kernel_rfl) (by kernel_rfl)
      (by rw [MakeChecks.laidMetH_plain _ _ _ (by kernel_rfl)]; exact laidMet_laidAll _ (by kernel_rfl) (by kernel_rfl))) ?_
  · intro ds hl
    match ds, hl with
    | [d0, d1], _ => rfl
  · intro t ht
    rw [show Tryd.f7.params.toList = [9, 9] from by rw [Tryd.params7]] at ht
    simp only [List.mem_cons, List.not_mem_nil, or_false] at ht
    rcases ht with rfl | rfl
    · exact ⟨by kernel_rfl, of_decide_eq_true (by kernel_rfl)⟩
    · exact ⟨by kernel_rfl, of_decide_eq_true (by kernel_rfl)⟩
  · intro W args hG
    rw [show Tryd.f7.params.toList = [9, 9] from by rw [Tryd.params7]] at hG
    obtain ⟨v0, v1, rfl, g0, g1⟩ := gotAll_args2 hG
    obtain ⟨a0, rfl, b0⟩ := got_string Tryd.underlying9 g0
    obtain ⟨a1, rfl, b1⟩ := got_string Tryd.underlying9 g1
    exact walk_namesTwo W a0 b0 a1 b1

theorem namesTwo_over : Rows.namesTwoRow.holds Tryd.pinned (OpenSpec.ofChange Rows.namesTwoSpec) :=
  OpenClaim.holds_of_wide 7 Tryd.f7 rfl rfl rfl rfl rfl rfl rfl ⟨rfl, rfl, rfl, rfl, rfl⟩ rfl rfl rfl rfl rfl (by kernel_rfl) Tryd.func7 (by kernel_rfl)
    (of_decide_eq_true (by kernel_rfl)) (by unfold Func.isWrapper; first | (rw [if_pos (by decide +kernel)]; kernel_rfl) | (rw [if_neg (by decide +kernel)]; exact ⟨rfl, rfl⟩))
    (fun os started H enc _ => lifted_namesTwo os started H enc)

theorem namesTwo_holds : Rows.NamesTwoCardSaid :=
  Claim7.holds_tied_plain_at .later [] [.data, .pinned] true (true, "0b2efbb8c5e64fd6dce629912144b1bf5c6fe063e2a189094e2917efd15ad8c6") false namesTwo_over (fun _ h => by cases h) (by kernel_rfl) (fun _ h => by cases h) namesTwo_row_tie rfl ⟨rfl, rfl⟩ (by kernel_rfl) rfl
    (fun f fn hf hfn => by
      obtain rfl : f = 7 := Option.some.inj ((show Tryd.prog.funcNamed "glissade/glissadelaw13.NamesTwo" = some 7 by kernel_rfl).symm.trans hf) |>.symm
      obtain rfl : fn = Tryd.f7 := (Option.some.inj (Tryd.func7.symm.trans hfn)).symm
      exact ⟨by kernel_rfl, fun j t ht => by
        rw [Tryd.params7] at ht
        have hm : t ∈ [9, 9] := by simpa using Array.mem_of_getElem? ht
        have hall : ([9, 9].all fun u => !Tryd.prog.wantsStandIn u) = true := by kernel_rfl
        exact (show Tryd.prog.wantsStandIn t = false by simpa using List.all_eq_true.1 hall t hm)⟩)
    (by kernel_rfl)
#print axioms namesTwo_holds

end Go.Proofs.YtlhkfpenfbakkaaDoor
