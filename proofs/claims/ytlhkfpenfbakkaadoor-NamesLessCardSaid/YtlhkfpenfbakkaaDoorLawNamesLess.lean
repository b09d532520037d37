/- For every input the law glissadelaw13.NamesLess returns true; within the sizes that the law itself asks; else it returns true at once; a tied card: two package variables of unicode/utf8 are laid as the text lays them; the card speaks of a pruned copy of the project. -/
import Derived.BigQuiet
import Derived.Deep.QuietTactic
import Derived.Deep.RegionHeld3
import Derived.Laws.AppendOwnNone
import Derived.SevenTiedAt
import Derived.Test.YtlhkfpenfbakkaaDoorNamLaw2
import Derived.Test.YtlhkfpenfbakkaaDoorGotStrs
import Derived.Test.YtlhkfpenfbakkaaDoorTie
import Derived.Test.YtlhkfpenfbakkaaDoorCards
import Derived.Test.YtlhkfpenfbakkaaDoorFrameL
set_option linter.unusedVariables false
set_option linter.unusedSimpArgs false
set_option maxRecDepth 100000
namespace Go.Proofs.YtlhkfpenfbakkaaDoor
open Go.RowKit Go.Joins

theorem split_list (s : ByteArray) : ∃ (m : List ByteArray) (z : Int), splitP (bts s) = (m.map bts, z) := by
  refine ⟨(splitP (bts s)).1.map tx, (splitP (bts s)).2, Prod.ext ?_ rfl⟩
  rw [List.map_map]
  have : (bts ∘ tx) = id := funext fun l => tx_bts l
  rw [this]; simp
theorem split_short {s : ByteArray} {m : List ByteArray} {z : Int} (h : splitP (bts s) = (m.map bts, z)) : m.length ≤ 16 := by
  rcases splitP_two (bts s) with h2 | h2 | h2
  · have h3 := splitP_ok h2
    rw [h] at h3
    have := h3.1.2.1
    simpa using this
  · rw [h] at h2
    injection h2 with h2 _
    have := congrArg List.length h2
    rw [List.length_map, List.length_nil] at this
    omega
  · rw [h] at h2
    injection h2 with h2 _
    have := congrArg List.length h2
    rw [List.length_map, List.length_nil] at this
    omega

theorem append_on {P : Program} {w : World} {ops : Array Oper} {rest : List Oper} {o : Oper} {a : Act} {Q : Exit → Act → World → Prop} (hw : Region.wanted o (yielded ops a.tmps) = true) (s x : Operand) (t : TypeId)
    (ho : o.op = .call { callee := .builtin .append, args := #[s, x], argTypes := #[t, t] })
    (base : Nat) (e : TypeId) (i : TypeInfo) (z : Value) (size bytes : Nat) (ht : P.underlying t = some (.slice e)) (hi : P.info? e = some i) (hz : i.zero = some z)
    (hsize : i.size = size) (hby : i.bytes = bytes) (hzs : z.cells.size = size) (hsz : 0 < size)
    (v : Value) (n : Nat) (xs : List Value) (hs : a.eval s = v) (hown : w.ownsRow base e size v n xs)
    (ad : Addr) (m c : Nat) (news : List Value) (hx : a.eval x = .slice (some ad) m c) (hl : news.length = m * size) (hnews : ∀ j u, news[j]? = some u → w.cell? (ad.add j) = some u) (h1 : ∀ u ∈ news, u.oneCell' = true)
    (h63 : n + m ≤ maxLen) (hbytes : (n + m) * bytes ≤ 140737488355328) (hbase : base ≤ w.heap.size)
    (h : ∀ v' w', w'.ownsRow base e size v' (n + m) (xs ++ news) → w.grownBy w' v.ownBlock → wpList P ops Q rest (a.put o.dst v') w') : wpList P ops Q (o :: rest) a w :=
  wpList_step fun K hK => by
    rw [if_pos hw]
    exact wp_append_own w s x t ho base e i z size bytes ht hi hz hsize hby hzs hsz v n xs hs hown ad m c news hx hl hnews h1 h63 hbytes hbase fun v' w' h2 h3 _ => hK _ _ (h v' w' h2 h3)
theorem strs_one (l : List ByteArray) : ∀ u ∈ strs l, u.oneCell' = true := by
  intro u hu
  rw [strs, List.mem_map] at hu
  obtain ⟨x, _, rfl⟩ := hu
  rfl
theorem vals_front {W : World} {g : Nat} {l : List ByteArray} {r : List Value} (h : RowAt W g (strs l ++ r)) : ValS W (some ⟨g, 0, none⟩) (strs l) := by
  refine .inr ⟨g, 0, rfl, h.lt, fun i u hu => ?_⟩
  have hi := (List.getElem?_eq_some_iff.1 hu).1
  rw [Nat.zero_add, h.cell i (by rw [List.length_append]; omega), List.getElem?_append_left hi]
  exact hu
theorem bts_app (a b : ByteArray) : bts (a ++ b) = bts a ++ bts b := by simp [bts]
theorem less_more {m : List ByteArray} {part M : ByteArray} (hm : PathOk (m.map bts)) (hp : nmOk (bts part) = true) (hM : bts M = flat ((m ++ [part]).map bts)) : splitP (bts M) = if 256 < M.size ∨ m.length = 16 then ([], 3) else ((m ++ [part]).map bts, 0) := by
  have hall : ((m ++ [part]).map bts).all nmOk = true := by rw [List.map_append, List.all_append, hm.1]; simp [hp]
  have hps : pathS ((m ++ [part]).map bts) = flat ((m ++ [part]).map bts) := by rw [pathS, if_neg (by simp)]
  have hsz : (flat ((m ++ [part]).map bts)).length = M.size := by rw [← hM, bts_length]
  have hl := hm.2.1
  rw [List.length_map] at hl
  by_cases h1 : 256 < M.size
  · rw [if_pos (.inl h1)]
    exact splitP_long (by rw [bts_length]; exact h1)
  by_cases h2 : m.length = 16
  · rw [if_pos (.inr h2), hM]
    cases m with
    | nil => simp at h2
    | cons x m =>
      have hx : nmOk (bts x) = true := by have := hm.1; rw [List.map_cons, List.all_cons, Bool.and_eq_true] at this; exact this.1
      have hx1 := (nmOk_iff.1 hx).1
      rw [List.cons_append, List.map_cons] at hall hsz ⊢
      rw [splitP_flat (bts x) ((m ++ [part]).map bts) (all_slash hall) (by omega) (by intro q; rw [List.append_eq_nil_iff] at q; rw [q.1] at hx1; simp at hx1), if_pos hall, if_pos (by simp at h2 ⊢; omega)]
  · rw [if_neg (by intro h; rcases h with h | h; exact h1 h; exact h2 h), hM, ← hps]
    exact splitP_path ⟨hall, by simp; omega, by rw [hps]; omega⟩

set_option maxHeartbeats 16000000 in
theorem walk_namesLess (w : World) (p : ByteArray) (hsa : p.size ≤ 140737488351232) (part : ByteArray) (hsb : part.size ≤ 140737488351232) :
    Calls Tryd.prog 6 #[.string p, .string part] w fun e w' => e = .returned (.bool true) ∧ Below w.heap.size w w' := by
  have B0 : Below w.heap.size w w := Below.refl _ _
  clear hsa hsb
  by_cases h1 : 5000 < p.size
  · have h1' : (5000 : Int) < (p.size : Int) := by omega
    go_enter Tryd.func6, Tryd.ntmps6
    go_wp2_with fail
    go_ret
    exact ⟨rfl, B0⟩
  have h1' : ¬ (5000 : Int) < (p.size : Int) := by omega
  by_cases h2 : 5000 < part.size
  · have h2' : (5000 : Int) < (part.size : Int) := by omega
    go_enter Tryd.func6, Tryd.ntmps6
    go_wp2_with fail
    go_ret
    exact ⟨rfl, B0⟩
  have h2' : ¬ (5000 : Int) < (part.size : Int) := by omega
  obtain ⟨m, z1, hm⟩ := split_list p
  have HS1 := Lib.hid (fun W => csplit_is hm W)
  have HC := Lib.hid (fun W => ccheck_any part W)
  have hml := split_short hm
  obtain ⟨i0, hi0, hz0, hz1, hz2⟩ := info_parts info_str
  have HI := Lib.hid (And.intro hi0 (And.intro hz0 (And.intro hz1 hz2)))
  clear hi0 hz0 hz1 hz2
  have o1 : (⟨#[47]⟩ : ByteArray).size = 1 := rfl
  have hm1 : ¬ maxLen < p.size + (⟨#[47]⟩ : ByteArray).size := by rw [o1]; unfold maxLen; omega
  have hm2 : ¬ maxLen < (p ++ ⟨#[47]⟩).size + part.size := by rw [ByteArray.size_append, o1]; unfold maxLen; omega
  have hm3 : ¬ maxLen < p.size + 1 := by unfold maxLen; omega
  have hm4 : ¬ maxLen < p.size + 1 + part.size := by unfold maxLen; omega
  have hm5 : ¬ maxLen < p.size + part.size := by unfold maxLen; omega
  have kk : p.toList = bts p := Lib.toList_data p
  by_cases k1 : z1 = 0
  · subst k1
    obtain ⟨P1, E1⟩ := splitP_ok hm
    have HPO := Lib.hid P1
    clear hm P1
    rcases List.eq_nil_or_concat m with h | ⟨init, x, h⟩
    · subst h
      have pq : p.toList = [47] := by rw [kk, E1]; rfl
      have HMS := Lib.hid (show ((p ++ part).size : Int) = (p.size : Int) + (part.size : Int) from by rw [ByteArray.size_append]; omega)
      have HE1 := Lib.hid E1
      clear kk E1 o1
      go_enter Tryd.func6, Tryd.ntmps6
      go_wp2_with fail
      refine (HS1.out _).mono ?_
      rintro e w1 ⟨⟨a1, c1, rfl, h11, h12, hn1⟩, hb1⟩
      have BX := below_chain B0 hb1 B0.size
      have HN1 := Lib.hid hn1
      clear hb1 B0 hn1 HS1
      cases a1 with
      | none =>
        obtain rfl := h12 rfl
        by_cases ck : checkP (bts part) = 0
        · rw [ck] at HC
          have hpn : nmOk (bts part) = true := by
            cases hq : nmOk (bts part) with
            | true => rfl
            | false => rw [checkP, hq] at ck; simp at ck
          have hmore := less_more HPO.out hpn (M := p ++ part) (by rw [bts_app, HE1.out]; simp [pathS, flat])
          have hpl := (nmOk_iff.1 hpn).2.1
          rw [bts_length] at hpl
          clear ck
          go_wp2_with fail
          refine (HC.out _).mono ?_
          rintro e wc ⟨rfl, hbc⟩
          have BC := below_chain BX hbc BX.size
          have HNC := Lib.hid (HN1.out.below hbc (Nat.le_refl _))
          clear hbc BX HN1 HC
          by_cases cl : 256 < (p ++ part).size
          · rw [if_pos (.inl cl)] at hmore
            have HMo := Lib.hid (fun W => csplit_is (m := []) hmore W)
            have t1 : (256 : Int) < ((p ++ part).size : Int) := by omega
            have t2 : (256 : Int) < (p.size : Int) + (part.size : Int) := by have := HMS.out; omega
            clear hmore cl
            go_wp2_with fail
            refine (HMo.out _).mono ?_
            rintro e wd ⟨⟨ad, cd, rfl, _, _, hnd⟩, hbd⟩
            have BB := below_chain BC hbd BC.size
            clear hbd BC HNC hnd HMo
            go_wp2_with fail
            refine (alive13 _).mono ?_
            rintro e w7 ⟨rfl, hb7⟩
            have B7 := below_chain BB hb7 BB.size
            go_wp2_with fail
            go_ret
            exact ⟨rfl, B7⟩
          · have t1 : ¬ (256 : Int) < ((p ++ part).size : Int) := by omega
            have t2 : ¬ (256 : Int) < (p.size : Int) + (part.size : Int) := by have := HMS.out; omega
            by_cases c16 : (([] : List ByteArray)).length = 16
            · exact absurd c16 (by simp)
            · rw [if_neg (by intro h; rcases h with h | h; exact cl h; exact c16 h)] at hmore
              have HMo := Lib.hid (fun W => csplit_is (m := ([] : List ByteArray) ++ [part]) hmore W)
              have t3 : ¬ (0 : Int) = 16 := by first | omega | (simp at c16; omega)
              have t4 : ((0 : Int) == 16) = false := by rw [beq_eq_false_iff_ne]; exact t3
              clear hmore cl c16
              go_wp2_with fail
              refine (HMo.out _).mono ?_
              rintro e w4 ⟨⟨a3, c3, rfl, h31, _, hn3⟩, hb4⟩
              have B4 := below_chain BC hb4 BC.size
              have HN4 := Lib.hid (HNC.out.below hb4 (Nat.le_refl _))
              have hg3 : ∃ g, a3 = some ⟨g, 0, none⟩ ∧ RowAt w4 g (strs (([] : List ByteArray) ++ [part])) := by
                rcases hn3 with h | ⟨g, q1, _, q3⟩
                · have h2 := congrArg List.length h
                  rw [strs_len] at h2
                  simp at h2
                · exact ⟨g, q1, q3⟩
              obtain ⟨g3, rfl, R3⟩ := hg3
              have HR3 := Lib.hid R3
              have hl3 := R3.lt
              have HM : Hid ((w4.alloc (.cells #[] 9)).ownsRow w4.heap.size 9 1 (.slice (some ⟨w4.heap.size, 0, none⟩) 0 0) 0 []) := ⟨rfl, .inr ⟨w4.heap.size, 0, #[], rfl, Nat.le_refl _, by show (w4.heap.push _)[w4.heap.size]? = _; simp, Nat.le_refl _, Nat.zero_le _, rfl, rfl⟩⟩
              have BA := B4.alloc B4.size (.cells #[] 9)
              have hb45 := B4.size
              clear hb4 BC HNC hn3 R3 HMo
              rw [show (([] : List ByteArray) ++ [part]).length = 0 + 1 from by simp]
              have B5 := BA
              have HO5 := HM
              have HR35 := Lib.hid (HR3.out.alloc (.cells #[] 9))
              have hs5 : w4.heap.size ≤ (w4.alloc (.cells #[] 9)).heap.size := by simp
              clear HM HR3 HN4
              have HL5 := Lib.hid (fun j hj => World.ownsRow.lt HO5.out j hj)
              have HRw := Lib.hid (row_news4 (show RowAt ((w4.alloc (.cells #[] 9)).alloc (.cells #[.string part] 9)) (w4.heap.size + 1) [.string part] from by have := rowAt_alloc (w4.alloc (.cells #[] 9)) #[.string part] 9; rw [World.size_alloc] at this; exact this))
              go_wp2_with (at_builtin; refine append_on (by first | rfl | (simp [Region.wanted, yielded]; done)) _ _ 22 rfl w4.heap.size 9 i0 (.string ⟨#[]⟩) 1 16 Tryd.underlying22 HI.out.1 HI.out.2.1 HI.out.2.2.1 HI.out.2.2.2 rfl (by decide) _ 0 _ rfl (HO5.out.alloc _) ⟨w4.heap.size + 1, 0, none⟩ 1 1 [.string part] rfl rfl HRw.out (by intro u hu; simp at hu; subst hu; rfl) (by unfold maxLen; omega) (by omega) (by simp; omega) ?_)
              intro v6 w6 own6 grow6
              obtain ⟨g6, cap6, rfl, hg6, hc6, R6⟩ := own_full4 own6 (by omega)
              have B6 := grown_below4 (B5.alloc B5.size (.cells #[.string part] 9)) grow6 (fun j hj => by have := (HL5.out j hj).1; omega) (by have := B5.size; simp; omega)
              have R6' : RowAt w6 g6 (strs (([] : List ByteArray) ++ [part])) := by rw [strs, List.map_append]; exact R6
              have R36 := (HR35.out.alloc (.cells #[.string part] 9)).grown grow6 (by intro e; have := (HL5.out _ e).1; omega)
              have hsm := same13 (some ⟨g3, 0, none⟩) (some ⟨g6, 0, none⟩) c3 cap6 (([] : List ByteArray) ++ [part]) w6 (by first | omega | (simp; done) | (simp; omega)) (.inr ⟨g3, 0, rfl, valAt_row R36⟩) (.inr ⟨g6, 0, rfl, valAt_row R6'⟩)
              rw [show (([] : List ByteArray) ++ [part]).length = 0 + 1 from by simp] at hsm
              have HSm := Lib.hid hsm
              clear own6 grow6 R6 R6' hsm R36 HR35 HL5 HO5 B5 HRw
              go_wp2_with fail
              refine HSm.out.mono ?_
              rintro e w8 ⟨rfl, hb8⟩
              have BB := below_chain B6 hb8 B6.size
              clear hb8 B6 HSm
              go_wp2_with fail
              refine (alive13 _).mono ?_
              rintro e w7 ⟨rfl, hb7⟩
              have B7 := below_chain BB hb7 BB.size
              go_wp2_with fail
              go_ret
              exact ⟨rfl, B7⟩
        · have hq : (checkP (bts part) != 0) = true := by rw [bne_iff_ne]; exact ck
          generalize checkP (bts part) = z at *
          clear ck
          go_wp2_with fail
          refine (HC.out _).mono ?_
          rintro e wc ⟨rfl, hbc⟩
          have BB := below_chain BX hbc BX.size
          clear hbc BX HN1 HC
          go_wp2_with fail
          refine (alive13 _).mono ?_
          rintro e w7 ⟨rfl, hb7⟩
          have B7 := below_chain BB hb7 BB.size
          go_wp2_with fail
          go_ret
          exact ⟨rfl, B7⟩
      | some ad0 =>
        by_cases ck : checkP (bts part) = 0
        · rw [ck] at HC
          have hpn : nmOk (bts part) = true := by
            cases hq : nmOk (bts part) with
            | true => rfl
            | false => rw [checkP, hq] at ck; simp at ck
          have hmore := less_more HPO.out hpn (M := p ++ part) (by rw [bts_app, HE1.out]; simp [pathS, flat])
          have hpl := (nmOk_iff.1 hpn).2.1
          rw [bts_length] at hpl
          clear ck
          go_wp2_with fail
          refine (HC.out _).mono ?_
          rintro e wc ⟨rfl, hbc⟩
          have BC := below_chain BX hbc BX.size
          have HNC := Lib.hid (HN1.out.below hbc (Nat.le_refl _))
          clear hbc BX HN1 HC
          by_cases cl : 256 < (p ++ part).size
          · rw [if_pos (.inl cl)] at hmore
            have HMo := Lib.hid (fun W => csplit_is (m := []) hmore W)
            have t1 : (256 : Int) < ((p ++ part).size : Int) := by omega
            have t2 : (256 : Int) < (p.size : Int) + (part.size : Int) := by have := HMS.out; omega
            clear hmore cl
            go_wp2_with fail
            refine (HMo.out _).mono ?_
            rintro e wd ⟨⟨ad, cd, rfl, _, _, hnd⟩, hbd⟩
            have BB := below_chain BC hbd BC.size
            clear hbd BC HNC hnd HMo
            go_wp2_with fail
            refine (alive13 _).mono ?_
            rintro e w7 ⟨rfl, hb7⟩
            have B7 := below_chain BB hb7 BB.size
            go_wp2_with fail
            go_ret
            exact ⟨rfl, B7⟩
          · have t1 : ¬ (256 : Int) < ((p ++ part).size : Int) := by omega
            have t2 : ¬ (256 : Int) < (p.size : Int) + (part.size : Int) := by have := HMS.out; omega
            by_cases c16 : (([] : List ByteArray)).length = 16
            · exact absurd c16 (by simp)
            · rw [if_neg (by intro h; rcases h with h | h; exact cl h; exact c16 h)] at hmore
              have HMo := Lib.hid (fun W => csplit_is (m := ([] : List ByteArray) ++ [part]) hmore W)
              have t3 : ¬ (0 : Int) = 16 := by first | omega | (simp at c16; omega)
              have t4 : ((0 : Int) == 16) = false := by rw [beq_eq_false_iff_ne]; exact t3
              clear hmore cl c16
              go_wp2_with fail
              refine (HMo.out _).mono ?_
              rintro e w4 ⟨⟨a3, c3, rfl, h31, _, hn3⟩, hb4⟩
              have B4 := below_chain BC hb4 BC.size
              have HN4 := Lib.hid (HNC.out.below hb4 (Nat.le_refl _))
              have hg3 : ∃ g, a3 = some ⟨g, 0, none⟩ ∧ RowAt w4 g (strs (([] : List ByteArray) ++ [part])) := by
                rcases hn3 with h | ⟨g, q1, _, q3⟩
                · have h2 := congrArg List.length h
                  rw [strs_len] at h2
                  simp at h2
                · exact ⟨g, q1, q3⟩
              obtain ⟨g3, rfl, R3⟩ := hg3
              have HR3 := Lib.hid R3
              have hl3 := R3.lt
              have HM : Hid ((w4.alloc (.cells #[] 9)).ownsRow w4.heap.size 9 1 (.slice (some ⟨w4.heap.size, 0, none⟩) 0 0) 0 []) := ⟨rfl, .inr ⟨w4.heap.size, 0, #[], rfl, Nat.le_refl _, by show (w4.heap.push _)[w4.heap.size]? = _; simp, Nat.le_refl _, Nat.zero_le _, rfl, rfl⟩⟩
              have BA := B4.alloc B4.size (.cells #[] 9)
              have hb45 := B4.size
              clear hb4 BC HNC hn3 R3 HMo
              rw [show (([] : List ByteArray) ++ [part]).length = 0 + 1 from by simp]
              have HNw := Lib.hid (vals_news (HN4.out.vals.alloc (.cells #[] 9)))
              go_wp2_with (at_builtin; refine append_on (by first | rfl | (simp [Region.wanted, yielded]; done)) _ _ 22 rfl w4.heap.size 9 i0 (.string ⟨#[]⟩) 1 16 Tryd.underlying22 HI.out.1 HI.out.2.1 HI.out.2.2.1 HI.out.2.2.2 rfl (by decide) _ 0 [] rfl HM.out ad0 0 c1 (strs (([] : List ByteArray))) rfl (by rw [strs_len, Nat.mul_one]; simp) HNw.out (strs_one _) (by unfold maxLen; omega) (by omega) (by simp) ?_)
              intro v5 w5 own5 grow5
              have HO5 : Hid (w5.ownsRow w4.heap.size 9 1 v5 (0) (strs (([] : List ByteArray)))) := by
                have := own5
                first | exact this | (rw [Nat.zero_add] at this; exact this)
              have hs5 : w4.heap.size ≤ w5.heap.size := Nat.le_trans (show w4.heap.size ≤ (w4.alloc (.cells #[] 9)).heap.size by simp) grow5.size
              have B5 := grown_below4 BA grow5 (fun j hj => by simp [Value.ownBlock] at hj; omega) BA.size
              have HR35 := Lib.hid ((HR3.out.alloc (.cells #[] 9)).grown grow5 (by intro e; simp [Value.ownBlock] at e; omega))
              clear own5 grow5 HM HR3 HNw HN4
              have HL5 := Lib.hid (fun j hj => World.ownsRow.lt HO5.out j hj)
              have HRw := Lib.hid (row_news4 (rowAt_alloc w5 #[.string part] 9))
              go_wp2_with (at_builtin; refine append_on (by first | rfl | (simp [Region.wanted, yielded]; done)) _ _ 22 rfl w4.heap.size 9 i0 (.string ⟨#[]⟩) 1 16 Tryd.underlying22 HI.out.1 HI.out.2.1 HI.out.2.2.1 HI.out.2.2.2 rfl (by decide) _ 0 _ rfl (HO5.out.alloc _) ⟨w5.heap.size, 0, none⟩ 1 1 [.string part] rfl rfl HRw.out (by intro u hu; simp at hu; subst hu; rfl) (by unfold maxLen; omega) (by omega) (by simp; omega) ?_)
              intro v6 w6 own6 grow6
              obtain ⟨g6, cap6, rfl, hg6, hc6, R6⟩ := own_full4 own6 (by omega)
              have B6 := grown_below4 (B5.alloc B5.size (.cells #[.string part] 9)) grow6 (fun j hj => by have := (HL5.out j hj).1; omega) (by have := B5.size; simp; omega)
              have R6' : RowAt w6 g6 (strs (([] : List ByteArray) ++ [part])) := by rw [strs, List.map_append]; exact R6
              have R36 := (HR35.out.alloc (.cells #[.string part] 9)).grown grow6 (by intro e; have := (HL5.out _ e).1; omega)
              have hsm := same13 (some ⟨g3, 0, none⟩) (some ⟨g6, 0, none⟩) c3 cap6 (([] : List ByteArray) ++ [part]) w6 (by first | omega | (simp; done) | (simp; omega)) (.inr ⟨g3, 0, rfl, valAt_row R36⟩) (.inr ⟨g6, 0, rfl, valAt_row R6'⟩)
              rw [show (([] : List ByteArray) ++ [part]).length = 0 + 1 from by simp] at hsm
              have HSm := Lib.hid hsm
              clear own6 grow6 R6 R6' hsm R36 HR35 HL5 HO5 B5 HRw
              go_wp2_with fail
              refine HSm.out.mono ?_
              rintro e w8 ⟨rfl, hb8⟩
              have BB := below_chain B6 hb8 B6.size
              clear hb8 B6 HSm
              go_wp2_with fail
              refine (alive13 _).mono ?_
              rintro e w7 ⟨rfl, hb7⟩
              have B7 := below_chain BB hb7 BB.size
              go_wp2_with fail
              go_ret
              exact ⟨rfl, B7⟩
        · have hq : (checkP (bts part) != 0) = true := by rw [bne_iff_ne]; exact ck
          generalize checkP (bts part) = z at *
          clear ck
          go_wp2_with fail
          refine (HC.out _).mono ?_
          rintro e wc ⟨rfl, hbc⟩
          have BB := below_chain BX hbc BX.size
          clear hbc BX HN1 HC
          go_wp2_with fail
          refine (alive13 _).mono ?_
          rintro e w7 ⟨rfl, hb7⟩
          have B7 := below_chain BB hb7 BB.size
          go_wp2_with fail
          go_ret
          exact ⟨rfl, B7⟩
    · rw [List.concat_eq_append] at h
      subst h
      have hmx : (init ++ [x]).length = init.length + 1 := by simp
      rw [hmx] at HS1 hml
      have hall := HPO.out.1
      rw [List.map_append, List.all_append, Bool.and_eq_true] at hall
      obtain ⟨hall1, hall2⟩ := hall
      have hx : nmOk (bts x) = true := by simpa using hall2
      have hx1 := (nmOk_iff.1 hx).1
      rw [bts_length] at hx1
      have E2 : bts p = flat ((init ++ [x]).map bts) := by rw [E1, pathS, if_neg (by simp)]
      have hF : bts p = flat (init.map bts) ++ 47 :: bts x := by rw [E2, List.map_append, flat_append]; simp [flat]
      obtain ⟨F, hFd⟩ : ∃ F, F = (flat (init.map bts)).length := ⟨_, rfl⟩
      have hps : p.size = F + 1 + x.size := by rw [← bts_length p, hF, List.length_append, List.length_cons, bts_length, hFd]; omega
      have hpx : bts (p.extract 0 F) = flat (init.map bts) := by rw [bts_to, hF, hFd, List.take_left' rfl]
      have hp256 : p.size ≤ 256 := by
        have := HPO.out.2.2
        rw [← E1, bts_length] at this
        exact this
      have pq : ¬ p.toList = [47] := by
        rw [kk]
        intro h
        have := congrArg List.length h
        rw [bts_length] at this
        simp at this
        omega
      have pq2 : (p.toList == [47]) = false := by simpa using pq
      have hat : (p.size : Int) - 1 - (x.size : Int) = (F : Int) := by omega
      have hw1 : IntKind.i64.wrap ((p.size : Int) - 1) = (p.size : Int) - 1 := IntWalk.i64_in _ (by omega)
      have hw2 : IntKind.i64.wrap ((p.size : Int) - 1 - (x.size : Int)) = (F : Int) := by rw [hat]; exact IntWalk.i64_in _ (by omega)
      have hw3 : IntKind.i64.wrap (F : Int) = (F : Int) := IntWalk.i64_in _ (by omega)
      have f0 : (0 : Int) ≤ (F : Int) := by omega
      have f1 : (F : Int) ≤ (p.size : Int) := by omega
      have f2 : ¬ ((F : Int) < 0) := by omega
      have hk2 : IntKind.i64.wrap (init.length : Int) = (init.length : Int) := IntWalk.i64_in _ (by omega)
      have hk3 : IntKind.i64.wrap ((init.length : Int) + 1) = (init.length : Int) + 1 := IntWalk.i64_in _ (by omega)
      have f3 : (0 : Int) ≤ (init.length : Int) := by omega
      have f4 : (init.length : Int) < (init.length : Int) + 1 := by omega
      have f5 : (init.length : Int) ≤ (init.length : Int) + 1 := by omega
      have f6 : (0 : Int) < (init.length : Int) + 1 := by omega
      have hMS : ((p ++ ⟨#[47]⟩ ++ part).size : Int) = (p.size : Int) + 1 + (part.size : Int) := by rw [ByteArray.size_append, ByteArray.size_append, o1]; omega
      have HE1 := Lib.hid E2
      have HMS := Lib.hid hMS
      clear hMS
      by_cases hi : init = []
      · subst hi
        have hF0 : F = 0 := by rw [hFd]; rfl
        have HSi := Lib.hid (fun W => csplit_is (s := ByteArray.empty) (m := []) (z := 130) (by decide +kernel) W)
        have HSj := Lib.hid (fun W => csplit_is (m := []) (z := 0) ex_split3 W)
        clear kk E1 E2 hF hpx hFd hall1 hall2 hx o1 f0 f1 f2 f3 f4 f5 f6 hk2 hk3 hw3 hmx
        subst hF0
        clear hps
        go_enter Tryd.func6, Tryd.ntmps6
        go_wp2_with fail
        refine (HS1.out _).mono ?_
        rintro e w1 ⟨⟨a1, c1, rfl, h11, h12, hn1⟩, hb1⟩
        have B1 := below_chain B0 hb1 B0.size
        obtain ⟨g1, rfl, R1⟩ : ∃ g, a1 = some ⟨g, 0, none⟩ ∧ RowAt w1 g (strs ([] ++ [x] : List ByteArray)) := by
          rcases hn1 with h | ⟨g, q1, _, q3⟩
          · have h2 := congrArg List.length h
            rw [strs_len] at h2
            simp at h2
          · exact ⟨g, q1, q3⟩
        have n0 : w1.cell? ⟨g1, 0, none⟩ = some (.string x) := by
          rw [R1.cell _ (by rw [strs_len]; simp)]
          exact strs_get (by simp)
        have HN0 := Lib.hid hn1
        have HR1 := Lib.hid R1
        have hc1 : (0 : Int) ≤ (c1 : Int) := by omega
        clear hb1 B0 hn1 HS1 R1
        go_wp2_with fail
        clear hat hw1 hw2
        refine (HSi.out _).mono ?_
        rintro e w2 ⟨⟨a5, c5, rfl, _, _, hn5⟩, hb2⟩
        have B2 := below_chain B1 hb2 B1.size
        have HN1 := Lib.hid (HN0.out.below hb2 (Nat.le_refl _))
        have HRb := Lib.hid (HR1.out.below hb2 HR1.out.lt)
        clear hb2 B1 hn5 HSi HN0 HR1 n0
        go_wp2_with fail
        refine (HSj.out _).mono ?_
        rintro e w3 ⟨⟨a6, c6, rfl, _, _, hn6⟩, hb3⟩
        have B3 := below_chain B2 hb3 B2.size
        have HN2 := Lib.hid (HN1.out.below hb3 (Nat.le_refl _))
        have hsm := same13 a6 (some ⟨g1, 0, none⟩) c6 c1 [] w3 (by simp) hn6.vals (.inl rfl)
        have HSm := Lib.hid hsm
        clear hb3 B2 hn6 hsm HSj HN1 HRb
        go_wp2_with fail
        refine HSm.out.mono ?_
        rintro e w4 ⟨rfl, hb4⟩
        have BX := below_chain B3 hb4 B3.size
        have HN1 := Lib.hid (HN2.out.below hb4 (Nat.le_refl _))
        clear hb4 B3 HSm HN2
        by_cases ck : checkP (bts part) = 0
        · rw [ck] at HC
          have hpn : nmOk (bts part) = true := by
            cases hq : nmOk (bts part) with
            | true => rfl
            | false => rw [checkP, hq] at ck; simp at ck
          have hmore := less_more HPO.out hpn (M := p ++ ⟨#[47]⟩ ++ part) (by rw [bts_app, bts_app, HE1.out, List.map_append (l₂ := [part]), flat_append]; simp [flat, bts])
          have hpl := (nmOk_iff.1 hpn).2.1
          rw [bts_length] at hpl
          clear ck
          go_wp2_with fail
          refine (HC.out _).mono ?_
          rintro e wc ⟨rfl, hbc⟩
          have BC := below_chain BX hbc BX.size
          have HNC := Lib.hid (HN1.out.below hbc (Nat.le_refl _))
          clear hbc BX HN1 HC
          by_cases cl : 256 < (p ++ ⟨#[47]⟩ ++ part).size
          · rw [if_pos (.inl cl)] at hmore
            have HMo := Lib.hid (fun W => csplit_is (m := []) hmore W)
            have t1 : (256 : Int) < ((p ++ ⟨#[47]⟩ ++ part).size : Int) := by omega
            have t2 : (256 : Int) < (p.size : Int) + 1 + (part.size : Int) := by have := HMS.out; omega
            clear hmore cl
            go_wp2_with fail
            refine (HMo.out _).mono ?_
            rintro e wd ⟨⟨ad, cd, rfl, _, _, hnd⟩, hbd⟩
            have BB := below_chain BC hbd BC.size
            clear hbd BC HNC hnd HMo
            go_wp2_with fail
            refine (alive13 _).mono ?_
            rintro e w7 ⟨rfl, hb7⟩
            have B7 := below_chain BB hb7 BB.size
            go_wp2_with fail
            go_ret
            exact ⟨rfl, B7⟩
          · have t1 : ¬ (256 : Int) < ((p ++ ⟨#[47]⟩ ++ part).size : Int) := by omega
            have t2 : ¬ (256 : Int) < (p.size : Int) + 1 + (part.size : Int) := by have := HMS.out; omega
            by_cases c16 : (([] ++ [x] : List ByteArray)).length = 16
            · exact absurd c16 (by simp)
            · rw [if_neg (by intro h; rcases h with h | h; exact cl h; exact c16 h)] at hmore
              have HMo := Lib.hid (fun W => csplit_is (m := ([] ++ [x] : List ByteArray) ++ [part]) hmore W)
              have t3 : ¬ (1 : Int) = 16 := by first | omega | (simp at c16; omega)
              have t4 : ((1 : Int) == 16) = false := by rw [beq_eq_false_iff_ne]; exact t3
              clear hmore cl c16
              go_wp2_with fail
              refine (HMo.out _).mono ?_
              rintro e w4 ⟨⟨a3, c3, rfl, h31, _, hn3⟩, hb4⟩
              have B4 := below_chain BC hb4 BC.size
              have HN4 := Lib.hid (HNC.out.below hb4 (Nat.le_refl _))
              have hg3 : ∃ g, a3 = some ⟨g, 0, none⟩ ∧ RowAt w4 g (strs (([] ++ [x] : List ByteArray) ++ [part])) := by
                rcases hn3 with h | ⟨g, q1, _, q3⟩
                · have h2 := congrArg List.length h
                  rw [strs_len] at h2
                  simp at h2
                · exact ⟨g, q1, q3⟩
              obtain ⟨g3, rfl, R3⟩ := hg3
              have HR3 := Lib.hid R3
              have hl3 := R3.lt
              have HM : Hid ((w4.alloc (.cells #[] 9)).ownsRow w4.heap.size 9 1 (.slice (some ⟨w4.heap.size, 0, none⟩) 0 0) 0 []) := ⟨rfl, .inr ⟨w4.heap.size, 0, #[], rfl, Nat.le_refl _, by show (w4.heap.push _)[w4.heap.size]? = _; simp, Nat.le_refl _, Nat.zero_le _, rfl, rfl⟩⟩
              have BA := B4.alloc B4.size (.cells #[] 9)
              have hb45 := B4.size
              clear hb4 BC HNC hn3 R3 HMo
              rw [show (([] ++ [x] : List ByteArray) ++ [part]).length = 1 + 1 from by simp]
              have HNw := Lib.hid (vals_news (HN4.out.vals.alloc (.cells #[] 9)))
              go_wp2_with (at_builtin; refine append_on (by first | rfl | (simp [Region.wanted, yielded]; done)) _ _ 22 rfl w4.heap.size 9 i0 (.string ⟨#[]⟩) 1 16 Tryd.underlying22 HI.out.1 HI.out.2.1 HI.out.2.2.1 HI.out.2.2.2 rfl (by decide) _ 0 [] rfl HM.out ⟨g1, 0, none⟩ 1 c1 (strs (([] ++ [x] : List ByteArray))) rfl (by rw [strs_len, Nat.mul_one]; simp) HNw.out (strs_one _) (by unfold maxLen; omega) (by omega) (by simp) ?_)
              intro v5 w5 own5 grow5
              have HO5 : Hid (w5.ownsRow w4.heap.size 9 1 v5 (1) (strs (([] ++ [x] : List ByteArray)))) := by
                have := own5
                first | exact this | (rw [Nat.zero_add] at this; exact this)
              have hs5 : w4.heap.size ≤ w5.heap.size := Nat.le_trans (show w4.heap.size ≤ (w4.alloc (.cells #[] 9)).heap.size by simp) grow5.size
              have B5 := grown_below4 BA grow5 (fun j hj => by simp [Value.ownBlock] at hj; omega) BA.size
              have HR35 := Lib.hid ((HR3.out.alloc (.cells #[] 9)).grown grow5 (by intro e; simp [Value.ownBlock] at e; omega))
              clear own5 grow5 HM HR3 HNw HN4
              have HL5 := Lib.hid (fun j hj => World.ownsRow.lt HO5.out j hj)
              have HRw := Lib.hid (row_news4 (rowAt_alloc w5 #[.string part] 9))
              go_wp2_with (at_builtin; refine append_on (by first | rfl | (simp [Region.wanted, yielded]; done)) _ _ 22 rfl w4.heap.size 9 i0 (.string ⟨#[]⟩) 1 16 Tryd.underlying22 HI.out.1 HI.out.2.1 HI.out.2.2.1 HI.out.2.2.2 rfl (by decide) _ 1 _ rfl (HO5.out.alloc _) ⟨w5.heap.size, 0, none⟩ 1 1 [.string part] rfl rfl HRw.out (by intro u hu; simp at hu; subst hu; rfl) (by unfold maxLen; omega) (by omega) (by simp; omega) ?_)
              intro v6 w6 own6 grow6
              obtain ⟨g6, cap6, rfl, hg6, hc6, R6⟩ := own_full4 own6 (by omega)
              have B6 := grown_below4 (B5.alloc B5.size (.cells #[.string part] 9)) grow6 (fun j hj => by have := (HL5.out j hj).1; omega) (by have := B5.size; simp; omega)
              have R6' : RowAt w6 g6 (strs (([] ++ [x] : List ByteArray) ++ [part])) := by rw [strs, List.map_append]; exact R6
              have R36 := (HR35.out.alloc (.cells #[.string part] 9)).grown grow6 (by intro e; have := (HL5.out _ e).1; omega)
              have hsm := same13 (some ⟨g3, 0, none⟩) (some ⟨g6, 0, none⟩) c3 cap6 (([] ++ [x] : List ByteArray) ++ [part]) w6 (by first | omega | (simp; done) | (simp; omega)) (.inr ⟨g3, 0, rfl, valAt_row R36⟩) (.inr ⟨g6, 0, rfl, valAt_row R6'⟩)
              rw [show (([] ++ [x] : List ByteArray) ++ [part]).length = 1 + 1 from by simp] at hsm
              have HSm := Lib.hid hsm
              clear own6 grow6 R6 R6' hsm R36 HR35 HL5 HO5 B5 HRw
              go_wp2_with fail
              refine HSm.out.mono ?_
              rintro e w8 ⟨rfl, hb8⟩
              have BB := below_chain B6 hb8 B6.size
              clear hb8 B6 HSm
              go_wp2_with fail
              refine (alive13 _).mono ?_
              rintro e w7 ⟨rfl, hb7⟩
              have B7 := below_chain BB hb7 BB.size
              go_wp2_with fail
              go_ret
              exact ⟨rfl, B7⟩
        · have hq : (checkP (bts part) != 0) = true := by rw [bne_iff_ne]; exact ck
          generalize checkP (bts part) = z at *
          clear ck
          go_wp2_with fail
          refine (HC.out _).mono ?_
          rintro e wc ⟨rfl, hbc⟩
          have BB := below_chain BX hbc BX.size
          clear hbc BX HN1 HC
          go_wp2_with fail
          refine (alive13 _).mono ?_
          rintro e w7 ⟨rfl, hb7⟩
          have B7 := below_chain BB hb7 BB.size
          go_wp2_with fail
          go_ret
          exact ⟨rfl, B7⟩
      · have hin : PathOk (init.map bts) := by
          refine ⟨hall1, by rw [List.length_map]; omega, ?_⟩
          rw [pathS, if_neg (by simpa using hi), ← hFd]
          omega
        have HSi := Lib.hid (fun W => csplit_is (s := p.extract 0 F) (m := init) (z := 0) (by rw [hpx, ← splitP_path hin, pathS, if_neg (by simpa using hi)]) W)
        have hF1 : 0 < F := by
          cases init with
          | nil => exact absurd rfl hi
          | cons y init => rw [hFd, List.map_cons, flat, List.length_cons]; omega
        have f7 : ((F : Int) == 0) = false := by rw [beq_eq_false_iff_ne]; omega
        have f8 : ¬ (F : Int) = 0 := by omega
        clear kk E1 E2 hF hpx hFd hall1 hall2 hx o1 hin hi hps hmx
        go_enter Tryd.func6, Tryd.ntmps6
        go_wp2_with fail
        refine (HS1.out _).mono ?_
        rintro e w1 ⟨⟨a1, c1, rfl, h11, h12, hn1⟩, hb1⟩
        have B1 := below_chain B0 hb1 B0.size
        obtain ⟨g1, rfl, R1⟩ : ∃ g, a1 = some ⟨g, 0, none⟩ ∧ RowAt w1 g (strs (init ++ [x])) := by
          rcases hn1 with h | ⟨g, q1, _, q3⟩
          · have h2 := congrArg List.length h
            rw [strs_len] at h2
            simp at h2
          · exact ⟨g, q1, q3⟩
        have n0 : w1.cell? ⟨g1, init.length, none⟩ = some (.string x) := by
          rw [R1.cell _ (by rw [strs_len]; simp)]
          exact strs_get (by simp)
        have HN0 := Lib.hid hn1
        have HR1 := Lib.hid R1
        have hc1 : (init.length : Int) ≤ (c1 : Int) := by omega
        clear hb1 B0 hn1 HS1 R1
        go_wp2_with fail
        refine (HSi.out _).mono ?_
        rintro e w2 ⟨⟨a5, c5, rfl, _, _, hn5⟩, hb2⟩
        have B2 := below_chain B1 hb2 B1.size
        have HN1 := Lib.hid (HN0.out.below hb2 (Nat.le_refl _))
        have hsm := same13 a5 (some ⟨g1, 0, none⟩) c5 c1 init w2 (by omega) hn5.vals (vals_front (r := strs [x]) (by have := HR1.out.below hb2 HR1.out.lt; rw [strs, List.map_append] at this; exact this))
        have HSm := Lib.hid hsm
        clear hb2 B1 hn5 hsm HSi HN0 HR1 n0
        go_wp2_with fail
        refine HSm.out.mono ?_
        rintro e w3 ⟨rfl, hb3⟩
        have BX := below_chain B2 hb3 B2.size
        have HN1 := Lib.hid (HN1.out.below hb3 (Nat.le_refl _))
        clear hb3 B2 HSm
        by_cases ck : checkP (bts part) = 0
        · rw [ck] at HC
          have hpn : nmOk (bts part) = true := by
            cases hq : nmOk (bts part) with
            | true => rfl
            | false => rw [checkP, hq] at ck; simp at ck
          have hmore := less_more HPO.out hpn (M := p ++ ⟨#[47]⟩ ++ part) (by rw [bts_app, bts_app, HE1.out, List.map_append (l₂ := [part]), flat_append]; simp [flat, bts])
          have hpl := (nmOk_iff.1 hpn).2.1
          rw [bts_length] at hpl
          clear ck
          go_wp2_with fail
          refine (HC.out _).mono ?_
          rintro e wc ⟨rfl, hbc⟩
          have BC := below_chain BX hbc BX.size
          have HNC := Lib.hid (HN1.out.below hbc (Nat.le_refl _))
          clear hbc BX HN1 HC
          by_cases cl : 256 < (p ++ ⟨#[47]⟩ ++ part).size
          · rw [if_pos (.inl cl)] at hmore
            have HMo := Lib.hid (fun W => csplit_is (m := []) hmore W)
            have t1 : (256 : Int) < ((p ++ ⟨#[47]⟩ ++ part).size : Int) := by omega
            have t2 : (256 : Int) < (p.size : Int) + 1 + (part.size : Int) := by have := HMS.out; omega
            clear hmore cl
            go_wp2_with fail
            refine (HMo.out _).mono ?_
            rintro e wd ⟨⟨ad, cd, rfl, _, _, hnd⟩, hbd⟩
            have BB := below_chain BC hbd BC.size
            clear hbd BC HNC hnd HMo
            go_wp2_with fail
            refine (alive13 _).mono ?_
            rintro e w7 ⟨rfl, hb7⟩
            have B7 := below_chain BB hb7 BB.size
            go_wp2_with fail
            go_ret
            exact ⟨rfl, B7⟩
          · have t1 : ¬ (256 : Int) < ((p ++ ⟨#[47]⟩ ++ part).size : Int) := by omega
            have t2 : ¬ (256 : Int) < (p.size : Int) + 1 + (part.size : Int) := by have := HMS.out; omega
            by_cases c16 : ((init ++ [x])).length = 16
            · rw [if_pos (.inr c16)] at hmore
              have HMo := Lib.hid (fun W => csplit_is (m := []) hmore W)
              have t3 : ((init.length + 1) : Int) = 16 := by first | omega | (simp at c16; omega)
              have t4 : (((init.length + 1) : Int) == 16) = true := by rw [beq_iff_eq]; exact t3
              clear hmore cl c16
              go_wp2_with fail
              refine (HMo.out _).mono ?_
              rintro e wd ⟨⟨ad, cd, rfl, _, _, hnd⟩, hbd⟩
              have BB := below_chain BC hbd BC.size
              clear hbd BC HNC hnd HMo
              go_wp2_with fail
              refine (alive13 _).mono ?_
              rintro e w7 ⟨rfl, hb7⟩
              have B7 := below_chain BB hb7 BB.size
              go_wp2_with fail
              go_ret
              exact ⟨rfl, B7⟩
            · rw [if_neg (by intro h; rcases h with h | h; exact cl h; exact c16 h)] at hmore
              have HMo := Lib.hid (fun W => csplit_is (m := (init ++ [x]) ++ [part]) hmore W)
              have t3 : ¬ ((init.length + 1) : Int) = 16 := by first | omega | (simp at c16; omega)
              have t4 : (((init.length + 1) : Int) == 16) = false := by rw [beq_eq_false_iff_ne]; exact t3
              clear hmore cl c16
              go_wp2_with fail
              refine (HMo.out _).mono ?_
              rintro e w4 ⟨⟨a3, c3, rfl, h31, _, hn3⟩, hb4⟩
              have B4 := below_chain BC hb4 BC.size
              have HN4 := Lib.hid (HNC.out.below hb4 (Nat.le_refl _))
              have hg3 : ∃ g, a3 = some ⟨g, 0, none⟩ ∧ RowAt w4 g (strs ((init ++ [x]) ++ [part])) := by
                rcases hn3 with h | ⟨g, q1, _, q3⟩
                · have h2 := congrArg List.length h
                  rw [strs_len] at h2
                  simp at h2
                · exact ⟨g, q1, q3⟩
              obtain ⟨g3, rfl, R3⟩ := hg3
              have HR3 := Lib.hid R3
              have hl3 := R3.lt
              have HM : Hid ((w4.alloc (.cells #[] 9)).ownsRow w4.heap.size 9 1 (.slice (some ⟨w4.heap.size, 0, none⟩) 0 0) 0 []) := ⟨rfl, .inr ⟨w4.heap.size, 0, #[], rfl, Nat.le_refl _, by show (w4.heap.push _)[w4.heap.size]? = _; simp, Nat.le_refl _, Nat.zero_le _, rfl, rfl⟩⟩
              have BA := B4.alloc B4.size (.cells #[] 9)
              have hb45 := B4.size
              clear hb4 BC HNC hn3 R3 HMo
              rw [show ((init ++ [x]) ++ [part]).length = (init.length + 1) + 1 from by simp]
              have HNw := Lib.hid (vals_news (HN4.out.vals.alloc (.cells #[] 9)))
              go_wp2_with (at_builtin; refine append_on (by first | rfl | (simp [Region.wanted, yielded]; done)) _ _ 22 rfl w4.heap.size 9 i0 (.string ⟨#[]⟩) 1 16 Tryd.underlying22 HI.out.1 HI.out.2.1 HI.out.2.2.1 HI.out.2.2.2 rfl (by decide) _ 0 [] rfl HM.out ⟨g1, 0, none⟩ (init.length + 1) c1 (strs ((init ++ [x]))) rfl (by rw [strs_len, Nat.mul_one]; simp) HNw.out (strs_one _) (by unfold maxLen; omega) (by omega) (by simp) ?_)
              intro v5 w5 own5 grow5
              have HO5 : Hid (w5.ownsRow w4.heap.size 9 1 v5 ((init.length + 1)) (strs ((init ++ [x])))) := by
                have := own5
                first | exact this | (rw [Nat.zero_add] at this; exact this)
              have hs5 : w4.heap.size ≤ w5.heap.size := Nat.le_trans (show w4.heap.size ≤ (w4.alloc (.cells #[] 9)).heap.size by simp) grow5.size
              have B5 := grown_below4 BA grow5 (fun j hj => by simp [Value.ownBlock] at hj; omega) BA.size
              have HR35 := Lib.hid ((HR3.out.alloc (.cells #[] 9)).grown grow5 (by intro e; simp [Value.ownBlock] at e; omega))
              clear own5 grow5 HM HR3 HNw HN4
              have HL5 := Lib.hid (fun j hj => World.ownsRow.lt HO5.out j hj)
              have HRw := Lib.hid (row_news4 (rowAt_alloc w5 #[.string part] 9))
              go_wp2_with (at_builtin; refine append_on (by first | rfl | (simp [Region.wanted, yielded]; done)) _ _ 22 rfl w4.heap.size 9 i0 (.string ⟨#[]⟩) 1 16 Tryd.underlying22 HI.out.1 HI.out.2.1 HI.out.2.2.1 HI.out.2.2.2 rfl (by decide) _ (init.length + 1) _ rfl (HO5.out.alloc _) ⟨w5.heap.size, 0, none⟩ 1 1 [.string part] rfl rfl HRw.out (by intro u hu; simp at hu; subst hu; rfl) (by unfold maxLen; omega) (by omega) (by simp; omega) ?_)
              intro v6 w6 own6 grow6
              obtain ⟨g6, cap6, rfl, hg6, hc6, R6⟩ := own_full4 own6 (by omega)
              have B6 := grown_below4 (B5.alloc B5.size (.cells #[.string part] 9)) grow6 (fun j hj => by have := (HL5.out j hj).1; omega) (by have := B5.size; simp; omega)
              have R6' : RowAt w6 g6 (strs ((init ++ [x]) ++ [part])) := by rw [strs, List.map_append]; exact R6
              have R36 := (HR35.out.alloc (.cells #[.string part] 9)).grown grow6 (by intro e; have := (HL5.out _ e).1; omega)
              have hsm := same13 (some ⟨g3, 0, none⟩) (some ⟨g6, 0, none⟩) c3 cap6 ((init ++ [x]) ++ [part]) w6 (by first | omega | (simp; done) | (simp; omega)) (.inr ⟨g3, 0, rfl, valAt_row R36⟩) (.inr ⟨g6, 0, rfl, valAt_row R6'⟩)
              rw [show ((init ++ [x]) ++ [part]).length = (init.length + 1) + 1 from by simp] at hsm
              have HSm := Lib.hid hsm
              clear own6 grow6 R6 R6' hsm R36 HR35 HL5 HO5 B5 HRw
              go_wp2_with fail
              refine HSm.out.mono ?_
              rintro e w8 ⟨rfl, hb8⟩
              have BB := below_chain B6 hb8 B6.size
              clear hb8 B6 HSm
              go_wp2_with fail
              refine (alive13 _).mono ?_
              rintro e w7 ⟨rfl, hb7⟩
              have B7 := below_chain BB hb7 BB.size
              go_wp2_with fail
              go_ret
              exact ⟨rfl, B7⟩
        · have hq : (checkP (bts part) != 0) = true := by rw [bne_iff_ne]; exact ck
          generalize checkP (bts part) = z at *
          clear ck
          go_wp2_with fail
          refine (HC.out _).mono ?_
          rintro e wc ⟨rfl, hbc⟩
          have BB := below_chain BX hbc BX.size
          clear hbc BX HN1 HC
          go_wp2_with fail
          refine (alive13 _).mono ?_
          rintro e w7 ⟨rfl, hb7⟩
          have B7 := below_chain BB hb7 BB.size
          go_wp2_with fail
          go_ret
          exact ⟨rfl, B7⟩
  · have q1 : (z1 != 0) = true := by rw [bne_iff_ne]; exact k1
    clear hm hml k1
    go_enter Tryd.func6, Tryd.ntmps6
    go_wp2_with fail
    refine (HS1.out _).mono ?_
    rintro e w1 ⟨⟨a1, c1, rfl, h11, h12, hn1⟩, hb1⟩
    have BB := below_chain B0 hb1 B0.size
    clear hb1 B0 hn1 HS1
    go_wp2_with fail
    refine (alive13 _).mono ?_
    rintro e w7 ⟨rfl, hb7⟩
    have B7 := below_chain BB hb7 BB.size
    go_wp2_with fail
    go_ret
    exact ⟨rfl, B7⟩

/-! ### the frame (printed by mklaw.py) -/

set_option maxRecDepth 100000 in
theorem lifted_namesLess (os : Os) (started : os.Started) (H : Type) (enc : TypeId × Value → H) :
    ReturnsInHanded {} Tryd.checked os 6 .any (fun w args => (Rows.namesLessSpec.pre enc Tryd.prog Tryd.f6 Rows.namesLessRow.domain false w args ∧ laidMetH Tryd.prog Rows.namesLessRow.laid w) ∧ sizedMet enc Tryd.prog Tryd.f6 (OpenSpec.ofChange Rows.namesLessSpec) false w args) (Rows.namesLessSpec.post enc Tryd.prog Tryd.f6 false true false false) := by
  refine law_step_laid (C := Tryd.checked) (tb := 4) (by kernel_rfl) (by kernel_rfl) started (by kernel_rfl) Tryd.func6 rfl Tryd.underlying4 rfl ?_ ?_
    (ChangeSpec.witness_shaped (enc := enc) (C := Tryd.checked) (os := os) (X := fun w _ => laidMetH Tryd.prog Rows.namesLessRow.laid w) false (World.laidAll Tryd.prog os Rows.namesLessRow.laid) #[.string ByteArray.empty, .string ByteArray.empty] 8 (World.laidAll_os _ _ _)
      (World.shaped_of_ZipB (by kernel_rfl) (by kernel_rfl)) (by kernel_rfl) (by kernel_rfl) (by kernel_rfl)
      (by rw [MakeChecks.laidMetH_plain _ _ _ (by kernel_rfl)]; exact laidMet_laidAll _ (by kernel_rfl) (by kernel_rfl))) ?_
  · intro ds hl
    match ds, hl with
    | [d0, d1], _ => rfl
  · intro t ht
    rw [show Tryd.f6.params.toList = [9, 9] from by rw [Tryd.params6]] at ht
    simp only [List.mem_cons, List.not_mem_nil, or_false] at ht
    rcases ht with rfl | rfl
    · exact ⟨by kernel_rfl, of_decide_eq_true (by kernel_rfl)⟩
    · exact ⟨by kernel_rfl, of_decide_eq_true (by kernel_rfl)⟩
  · intro W args hG
    rw [show Tryd.f6.params.toList = [9, 9] from by rw [Tryd.params6]] at hG
    obtain ⟨v0, v1, rfl, g0, g1⟩ := gotAll_args2 hG
    obtain ⟨a0, rfl, b0⟩ := got_string Tryd.underlying9 g0
    obtain ⟨a1, rfl, b1⟩ := got_string Tryd.underlying9 g1
    exact walk_namesLess W a0 b0 a1 b1

theorem namesLess_over : Rows.namesLessRow.holds Tryd.pinned (OpenSpec.ofChange Rows.namesLessSpec) :=
  OpenClaim.holds_of_wide 6 Tryd.f6 rfl rfl rfl rfl rfl rfl rfl ⟨rfl, rfl, rfl, rfl, rfl⟩ rfl rfl rfl rfl rfl (by kernel_rfl) Tryd.func6 (by kernel_rfl)
    (of_decide_eq_true (by kernel_rfl)) (by unfold Func.isWrapper; first | (rw [if_pos (by decide +kernel)]; kernel_rfl) | (rw [if_neg (by decide +kernel)]; exact ⟨rfl, rfl⟩))
    (fun os started H enc _ => lifted_namesLess os started H enc)

theorem namesLess_holds : Rows.NamesLessCardSaid :=
  Claim7.holds_tied_plain_at .later [] [.data, .pinned] true (true, "0b2efbb8c5e64fd6dce629912144b1bf5c6fe063e2a189094e2917efd15ad8c6") false namesLess_over (fun _ h => by cases h) (by kernel_rfl) (fun _ h => by cases h) namesLess_row_tie rfl ⟨rfl, rfl⟩ (by kernel_rfl) rfl
    (fun f fn hf hfn => by
      obtain rfl : f = 6 := Option.some.inj ((show Tryd.prog.funcNamed "glissade/glissadelaw13.NamesLess" = some 6 by kernel_rfl).symm.trans hf) |>.symm
      obtain rfl : fn = Tryd.f6 := (Option.some.inj (Tryd.func6.symm.trans hfn)).symm
      exact ⟨by kernel_rfl, fun j t ht => by
        rw [Tryd.params6] at ht
        have hm : t ∈ [9, 9] := by simpa using Array.mem_of_getElem? ht
        have hall : ([9, 9].all fun u => !Tryd.prog.wantsStandIn u) = true := by kernel_rfl
        exact (show Tryd.prog.wantsStandIn t = false by simpa using List.all_eq_true.1 hall t hm)⟩)
    (by kernel_rfl)
#print axioms namesLess_holds

end Go.Proofs.YtlhkfpenfbakkaaDoor
