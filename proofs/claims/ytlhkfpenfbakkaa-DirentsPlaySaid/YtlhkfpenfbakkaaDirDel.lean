/- Walks: an entry taken out of a list in place. -/
import Derived.Test.YtlhkfpenfbakkaaDirWalks4
import Derived.Deep.RegionLaw
set_option linter.unusedVariables false
set_option linter.unusedSimpArgs false
set_option maxRecDepth 100000
namespace Go.Proofs.Ytlhkfpenfbakkaa
open Go.RowKit Go.Joins

theorem step_append_room {P : Program} {ops : Array Oper} {o : Oper} {a : Act} {w : World} {K : Act → World → Prop} {Q : Exit → Act → World → Prop} {E : Prop}
    (hg : o.guard = none) (s x : Operand) (t : TypeId) (hop : o.op = Op.call { callee := Callee.builtin Builtin.append, args := #[s, x], argTypes := #[t, t] })
    (e : TypeId) (i : TypeInfo) (ht : P.underlying t = some (.slice e)) (hi : P.info? e = some i)
    (g sLen sCap : Nat) (cur : Array Value) (hgg : w.heap[g]? = some (.cells cur e (0, 0))) (hs : a.eval s = .slice (some ⟨g, 0, none⟩) sLen sCap)
    (ad : Addr) (m c : Nat) (news : List Value) (hx : a.eval x = .slice (some ad) m c) (hl : news.length = m * i.size) (hnews : ∀ j u, news[j]? = some u → w.cell? (ad.add j) = some u) (h1 : ∀ u ∈ news, u.oneCell' = true)
    (hroom : sLen + m ≤ sCap) (hfit : sLen * i.size + news.length ≤ cur.size)
    (hK : K (a.put o.dst (.slice (some ⟨g, 0, none⟩) (sLen + m) sCap)) (w.setRow g (cur.toList.take (sLen * i.size) ++ news ++ cur.toList.drop (sLen * i.size + news.length)).toArray)) :
    if Region.wanted o (yielded ops a.tmps) = true then Oper.wp P o a w K Q else E := by
  have hw : Region.wanted o (yielded ops a.tmps) = true := by simp [Region.wanted, hg]
  rw [if_pos hw]
  have hrun := run_append_room (P := P) w t o.type e i ht hi g sLen sCap cur hgg ad m c news hl hnews h1 hroom hfit
  generalize w.setRow g (cur.toList.take (sLen * i.size) ++ news ++ cur.toList.drop (sLen * i.size + news.length)).toArray = W at *
  unfold Oper.wp
  simp [execOp, hop, resolve, invoke, builtin, hs, hx, hrun, Result.andThen]
  exact hK

theorem info_de0 : (Try.prog.info? 25).map (fun i => (i.zero, i.size)) = some (some (.agg #[.string ByteArray.empty, .int .i64 0]), 2) := by kernel_rfl
theorem clear_one (W : World) (g o c : Nat) (ty : TypeId) (N : Array Value) (hN : W.heap[g]? = some (.cells N 25 (0, 0))) (ho : o + 2 ≤ N.size) :
    (Builtin.clear_ #[22] ty #[.slice (some ⟨g, o, none⟩) 1 c]).run Try.prog W = .ok (.tuple #[]) (W.setRow g (N.toList.take o ++ ([.string ByteArray.empty, .int .i64 0] : List Value) ++ N.toList.drop (o + 2)).toArray) := by
  have hz := (Go.zero_of_info info_de0).1 W
  have hst := run_storeCells_at Try.prog g o 25 [.string ByteArray.empty, .int .i64 0] 0 N W hN (by simpa using ho) (by intro v hv; simp at hv; rcases hv with rfl | rfl <;> rfl)
  have hzc : (Builtin.zeroCells (Value.agg #[.string ByteArray.empty, .int .i64 0]).cells 1).toList = [.string ByteArray.empty, .int .i64 0] := by kernel_rfl
  simp only [Nat.add_zero] at hst
  simp only [Builtin.clear_, Sem.run_bind, run_underlying Try.underlying22, hz, Result.andThen]
  simp [hzc, hst, Result.andThen, hz]

set_option maxHeartbeats 4000000 in
theorem delete_at (base g cap : Nat) (l : List De) (k : Nat) (w : World) (hk : k < l.length) (ho : w.ownsRow base 25 2 (.slice (some ⟨g, 0, none⟩) l.length cap) l.length (l.flatMap De.cells)) (hl : l.length ≤ 100000) :
    Calls Try.prog 37 #[.slice (some ⟨g, 0, none⟩) l.length cap, .int .i64 (k : Int), .int .i64 ((k : Int) + 1)] w fun e w' => e = .returned (.slice (some ⟨g, 0, none⟩) (l.take k ++ l.drop (k + 1)).length cap) ∧ RowAt w' g ((l.take k ++ l.drop (k + 1)).flatMap De.cells) ∧ w.grownBy w' (some g) := by
  obtain ⟨i0, hi, hz0, hz1, hz2⟩ := info_parts info_de
  rcases ho.2 with ⟨hv, h0⟩ | ⟨g', cap', cur, hv, hg, hgg, hc, hm, hcs, htk⟩
  · cases hv
  injection hv with hv1 _ hv3
  injection hv1 with hv1
  injection hv1 with hv1
  subst hv1 hv3
  have hrow := rowAt_own ho ho.1 (ho.lt g rfl).2
  have hlen := decells_len l
  obtain ⟨T3, hT3⟩ : ∃ T3, T3 = (l.drop (k + 1)).flatMap De.cells := ⟨_, rfl⟩
  have hT3l : T3.length = (l.length - (k + 1)) * 2 := by rw [hT3, decells_len]; simp
  have hT3n : ∀ j u, T3[j]? = some u → w.cell? ⟨g, (k + 1) * 2 + j, none⟩ = some u := by
    intro j u hu
    have hj := (List.getElem?_eq_some_iff.1 hu).1
    rw [hrow.cell _ (by omega)]
    rw [hT3, ← decells_drop, List.getElem?_drop] at hu
    exact hu
  have hT3o : ∀ u ∈ T3, u.oneCell' = true := by rw [hT3]; exact decells_one _
  obtain ⟨N, hN⟩ : ∃ N, N = (cur.toList.take (k * 2) ++ T3 ++ cur.toList.drop (k * 2 + T3.length)).toArray := ⟨_, rfl⟩
  have hNs : N.size = cur.size := by
    rw [hN]; simp; omega
  have hNg : (w.drew.setRow g N).heap[g]? = some (.cells N 25 (0, 0)) := setRow_heap _ _ _ _ _ _ hgg
  by_cases hcz : cap = k + 1
  · subst hcz
    have i1 : (0 : Int) ≤ (k : Int) := by omega
    have i2 : (k : Int) + 1 ≤ (l.length : Int) := by omega
    have i3 : (l.length : Int) ≤ ((k + 1) : Int) := by omega
    have i4 : (l.length : Int) ≤ 100000 := by omega
    have i5 : (k : Int) ≤ ((k + 1) : Int) := by omega
    have i6 : (k : Int) + 1 ≤ ((k + 1) : Int) := by omega
    have i7 : (0 : Int) ≤ (k : Int) + 1 := by omega
    have iw : IntKind.i64.wrap ((k : Int) + 1) = (k : Int) + 1 := IntWalk.i64_in _ (by omega)
    have hq : ((k : Int) == (k : Int) + 1) = false := by rw [beq_eq_false_iff_ne]; omega
    have HG := Lib.hid (And.intro hgg (And.intro hT3l (And.intro hT3o (And.intro hNs hNg))))
    have HI := Lib.hid hi
    have HTL0 := hT3l
    have HZ := Lib.hid hz1
    have HT := Lib.hid hT3n
    have HX := Lib.hid (And.intro hN (And.intro hT3 (And.intro htk (And.intro hcs hlen))))
    have HL2 : Hid ((l.take k ++ l.drop (k + 1)).length = k + (l.length - (k + 1))) := by
      show _ = _
      simp; omega
    rw [HL2.out]
    clear ho hrow hT3n hgg hT3l hT3o hNs hNg hi hz0 hz1 hz2 hN hT3 htk hcs hlen
    generalize hln : l.length = n at *
    obtain rfl : n = k + 1 := by omega
    have j0 : (k : Int) ≤ (k : Int) + 1 := by omega
    have em : k + 1 - (k + 1) = 0 := by omega
    rw [em] at *
    have HLN := Lib.hid hln
    have HTL := Lib.hid HTL0
    clear HTL0
    clear hln em HL2 i2 i3 i4
    have j1 : (k : Int) + 1 ≤ (k : Int) + 1 := by omega
    have j2 : (k : Int) + 1 ≤ ((k + 1) : Int) := by omega
    have j3 : (k : Int) + 1 ≤ 100000 := by omega
    have j4 : (k : Int) ≤ (k : Int) + 1 := by omega
    have j5 : (0 : Int) ≤ (k : Int) := by omega
    have j6 : (k : Int) ≤ ((k + 1) : Int) := by omega
    go_enter Try.func37, Try.ntmps37
    go_wp2_with fail
    go_region_law (first | (refine step_append_room rfl (.tmp 22) (.tmp 25) 22 rfl 25 i0 Try.underlying22 HI.out g k (k + 1) cur (by exact HG.out.1) (by simp [Act.eval, Act.put]) ⟨g, 0, none⟩ 0 0 T3 (by simp [Act.eval, Act.put]) (by rw [HZ.out]; have := HG.out.2.1; omega) (by exact (fun j u hu => by have h1 := HG.out.2.1; have h2 := (List.getElem?_eq_some_iff.1 hu).1; omega)) HG.out.2.2.1 (by omega) (by rw [HZ.out]; have := HG.out.2.1; have := HX.out.2.2.2.1; omega) ?_) | fail)
    rw [HZ.out, show (List.take (k * 2) cur.toList ++ (T3 ++ List.drop (k * 2 + T3.length) cur.toList)).toArray = N from by rw [HX.out.1]; simp]
    have HRN : Hid (RowAt (w.drew.setRow g N) g N.toList) := ⟨N, _, 0, 0, HG.out.2.2.2.2, fun i _ => by simp, fun i _ => by omega⟩
    have hNsz : N.toList.length = (k + 1) * 2 := by rw [Array.length_toList, HG.out.2.2.2.1]; exact HX.out.2.2.2.1
    have f1 := HRN.out.frozen (k * 2) (by omega)
    have f2 := HRN.out.frozen (k * 2 + 1) (by omega)
    obtain ⟨v1, c1⟩ := HRN.out.there (k * 2) (by omega)
    obtain ⟨v2, c2⟩ := HRN.out.there (k * 2 + 1) (by omega)
    have hgl := HRN.out.lt
    have gB : Hid (w.grownBy (w.drew.setRow g N) (some g)) := ⟨rfl, rfl, rfl, by simp, fun j hj hne => by rw [setRow_other _ _ _ _ (fun e => hne (by rw [e]))]; rfl⟩
    generalize w.drew.setRow g N = W at *
    have HW := Lib.hid HG.out.2.2.2.2
    clear HG
    go_wp2_with fail
    rw [clear_one W g (k * 2) _ _ N HW.out (by rw [Array.length_toList] at hNsz; omega)]
    obtain ⟨N2, hN2⟩ : ∃ N2, N2 = (N.toList.take (k * 2) ++ ([.string ByteArray.empty, .int .i64 0] : List Value) ++ N.toList.drop (k * 2 + 2)).toArray := ⟨_, rfl⟩
    rw [← hN2]
    have HR2 : Hid (RowAt (W.setRow g N2) g ((l.take k ++ l.drop (k + 1)).flatMap De.cells) ∧ w.grownBy (W.setRow g N2) (some g)) := by
      refine ⟨⟨N2, _, 0, 0, setRow_heap _ _ _ _ _ _ HW.out, fun i hi => ?_, fun i _ => by omega⟩, ⟨gB.out.os, gB.out.tape, gB.out.output, by have := gB.out.size; simpa using this, fun j hj hne => by rw [setRow_other _ _ _ _ (fun e => hne (by rw [e]))]; exact gB.out.block j hj hne⟩⟩
      have e1 : (l.take k ++ l.drop (k + 1)).flatMap De.cells = cur.toList.take (k * 2) ++ T3 := by
        rw [List.flatMap_append, ← HX.out.2.1, ← decells_take, ← HX.out.2.2.1, List.take_take, Nat.min_eq_left (by omega)]
      have e2 : (cur.toList.take (k * 2) ++ T3).length = k * 2 := by
        have q1 : (cur.toList.take (k * 2)).length = k * 2 := by
          rw [List.length_take, Array.length_toList, HX.out.2.2.2.1]; omega
        rw [List.length_append, q1, HTL.out]; omega
      rw [e1] at hi ⊢
      rw [← Array.getElem?_toList, hN2, List.append_assoc, List.getElem?_append_left (by rw [List.length_take, hNsz]; omega), List.getElem?_take_of_lt (by omega), HX.out.1]
      simp only [List.append_assoc]
      rw [← List.append_assoc, List.getElem?_append_left (by omega)]
    clear hN2 f1 f2 c1 c2
    go_wp2_with fail
    go_ret
    exact ⟨rfl, HR2.out.1, HR2.out.2⟩

  · skip
    have i1 : (0 : Int) ≤ (k : Int) := by omega
    have i2 : (k : Int) + 1 ≤ (l.length : Int) := by omega
    have i3 : (l.length : Int) ≤ (cap : Int) := by omega
    have i4 : (l.length : Int) ≤ 100000 := by omega
    have i5 : (k : Int) ≤ (cap : Int) := by omega
    have i6 : (k : Int) + 1 ≤ (cap : Int) := by omega
    have i7 : (0 : Int) ≤ (k : Int) + 1 := by omega
    have iw : IntKind.i64.wrap ((k : Int) + 1) = (k : Int) + 1 := IntWalk.i64_in _ (by omega)
    have hq : ((k : Int) == (k : Int) + 1) = false := by rw [beq_eq_false_iff_ne]; omega
    have HG := Lib.hid (And.intro hgg (And.intro hT3l (And.intro hT3o (And.intro hNs hNg))))
    have HI := Lib.hid hi
    have HTL0 := hT3l
    have HZ := Lib.hid hz1
    have HT := Lib.hid hT3n
    have HX := Lib.hid (And.intro hN (And.intro hT3 (And.intro htk (And.intro hcs hlen))))
    have HL2 : Hid ((l.take k ++ l.drop (k + 1)).length = k + (l.length - (k + 1))) := by
      show _ = _
      simp; omega
    rw [HL2.out]
    clear ho hrow hT3n hgg hT3l hT3o hNs hNg hi hz0 hz1 hz2 hN hT3 htk hcs hlen
    generalize hln : l.length = n at *
    obtain ⟨m, rfl⟩ : ∃ m, n = k + 1 + m := ⟨n - (k + 1), by omega⟩
    have em : k + 1 + m - (k + 1) = m := by omega
    rw [em] at *
    have HLN := Lib.hid hln
    have HTL := Lib.hid HTL0
    clear HTL0
    clear hln em HL2 i2 i3 i4
    have j1 : (k : Int) + 1 ≤ (k : Int) + 1 + (m : Int) := by omega
    have j2 : (k : Int) + 1 + (m : Int) ≤ (cap : Int) := by omega
    have j3 : (k : Int) + 1 + (m : Int) ≤ 100000 := by omega
    have j4 : (k : Int) + (m : Int) ≤ (k : Int) + 1 + (m : Int) := by omega
    have j5 : (0 : Int) ≤ (k : Int) + (m : Int) := by omega
    have j6 : (k : Int) + (m : Int) ≤ (cap : Int) := by omega
    go_enter Try.func37, Try.ntmps37
    go_wp2_with fail
    go_region_law (first | (refine step_append_room rfl (.tmp 22) (.tmp 25) 22 rfl 25 i0 Try.underlying22 HI.out g k cap cur (by exact HG.out.1) (by simp [Act.eval, Act.put]) ⟨g, (k + 1) * 2, none⟩ m (cap - (k + 1)) T3 (by simp [Act.eval, Act.put]) (by rw [HZ.out]; have := HG.out.2.1; omega) (by exact (fun j u hu => by rw [addr_add]; exact HT.out j u hu)) HG.out.2.2.1 (by omega) (by rw [HZ.out]; have := HG.out.2.1; have := HX.out.2.2.2.1; omega) ?_) | fail)
    rw [HZ.out, show (List.take (k * 2) cur.toList ++ (T3 ++ List.drop (k * 2 + T3.length) cur.toList)).toArray = N from by rw [HX.out.1]; simp]
    have HRN : Hid (RowAt (w.drew.setRow g N) g N.toList) := ⟨N, _, 0, 0, HG.out.2.2.2.2, fun i _ => by simp, fun i _ => by omega⟩
    have hNsz : N.toList.length = cap * 2 := by rw [Array.length_toList, HG.out.2.2.2.1]; exact HX.out.2.2.2.1
    have f1 := HRN.out.frozen ((k + m) * 2) (by omega)
    have f2 := HRN.out.frozen ((k + m) * 2 + 1) (by omega)
    obtain ⟨v1, c1⟩ := HRN.out.there ((k + m) * 2) (by omega)
    obtain ⟨v2, c2⟩ := HRN.out.there ((k + m) * 2 + 1) (by omega)
    have hgl := HRN.out.lt
    have gB : Hid (w.grownBy (w.drew.setRow g N) (some g)) := ⟨rfl, rfl, rfl, by simp, fun j hj hne => by rw [setRow_other _ _ _ _ (fun e => hne (by rw [e]))]; rfl⟩
    generalize w.drew.setRow g N = W at *
    have HW := Lib.hid HG.out.2.2.2.2
    clear HG
    go_wp2_with fail
    rw [show k + 1 + m - (k + m) = 1 from by omega, clear_one W g ((k + m) * 2) _ _ N HW.out (by rw [Array.length_toList] at hNsz; omega)]
    obtain ⟨N2, hN2⟩ : ∃ N2, N2 = (N.toList.take ((k + m) * 2) ++ ([.string ByteArray.empty, .int .i64 0] : List Value) ++ N.toList.drop ((k + m) * 2 + 2)).toArray := ⟨_, rfl⟩
    rw [← hN2]
    have HR2 : Hid (RowAt (W.setRow g N2) g ((l.take k ++ l.drop (k + 1)).flatMap De.cells) ∧ w.grownBy (W.setRow g N2) (some g)) := by
      refine ⟨⟨N2, _, 0, 0, setRow_heap _ _ _ _ _ _ HW.out, fun i hi => ?_, fun i _ => by omega⟩, ⟨gB.out.os, gB.out.tape, gB.out.output, by have := gB.out.size; simpa using this, fun j hj hne => by rw [setRow_other _ _ _ _ (fun e => hne (by rw [e]))]; exact gB.out.block j hj hne⟩⟩
      have e1 : (l.take k ++ l.drop (k + 1)).flatMap De.cells = cur.toList.take (k * 2) ++ T3 := by
        rw [List.flatMap_append, ← HX.out.2.1, ← decells_take, ← HX.out.2.2.1, List.take_take, Nat.min_eq_left (by omega)]
      have e2 : (cur.toList.take (k * 2) ++ T3).length = (k + m) * 2 := by
        have q1 : (cur.toList.take (k * 2)).length = k * 2 := by
          rw [List.length_take, Array.length_toList, HX.out.2.2.2.1]; omega
        rw [List.length_append, q1, HTL.out]; omega
      rw [e1] at hi ⊢
      rw [← Array.getElem?_toList, hN2, List.append_assoc, List.getElem?_append_left (by rw [List.length_take, hNsz]; omega), List.getElem?_take_of_lt (by omega), HX.out.1]
      simp only [List.append_assoc]
      rw [← List.append_assoc, List.getElem?_append_left (by omega)]
    clear hN2 f1 f2 c1 c2
    go_wp2_with fail
    go_ret
    exact ⟨rfl, HR2.out.1, HR2.out.2⟩

end Go.Proofs.Ytlhkfpenfbakkaa
