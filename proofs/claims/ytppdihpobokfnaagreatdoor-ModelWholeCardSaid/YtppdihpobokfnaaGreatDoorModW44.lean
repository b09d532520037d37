/- Walks: the model's laws' own functions: whole. -/
import Derived.Test.YtppdihpobokfnaaGreatDoorModW43
import Derived.Test.YtppdihpobokfnaaGreatDoorGPl2
import Derived.BigQuiet
import Derived.Deep.QuietTactic
set_option linter.unusedVariables false
set_option linter.unusedSimpArgs false
set_option maxRecDepth 100000
namespace Go.Proofs.YtppdihpobokfnaaGreatDoor
open Go.RowKit Go.Joins

theorem it_cells {W : World} {P o : Nat} {V : List It} {i : Nat} {x : It} (h : ValG W (some ⟨P, o, none⟩) 7 (V.map itC)) (hx : V[i]? = some x) : W.cell? ⟨P, o + i * 7, none⟩ = some (.string (tx x.path)) ∧ W.cell? ⟨P, o + i * 7 + 1, none⟩ = some (.int .i64 x.node) ∧ W.cell? ⟨P, o + i * 7 + 2, none⟩ = some (.int .i64 x.st.kind) ∧ W.cell? ⟨P, o + i * 7 + 3, none⟩ = some (.int .i64 x.st.size) ∧ W.cell? ⟨P, o + i * 7 + 4, none⟩ = some (.int .i64 x.st.links) ∧ W.cell? ⟨P, o + i * 7 + 5, none⟩ = some (.bool x.st.pin) ∧ W.cell? ⟨P, o + i * 7 + 6, none⟩ = some (.string (tx x.data)) := by
  obtain ⟨Q, q, e, _, hA⟩ := h.at (i := i) (xs := itC x) (by rw [List.getElem?_map, hx]; rfl)
  injection e with e
  injection e with e1 e2
  subst e1 e2
  exact ⟨hA 0 _ rfl, hA 1 _ rfl, hA 2 _ rfl, hA 3 _ rfl, hA 4 _ rfl, hA 5 _ rfl, hA 6 _ rfl⟩
theorem tx_same (a b : Bs) : ((tx a).toList == (tx b).toList) = (a == b) := by rw [Lib.toList_data, Lib.toList_data]; rfl
theorem tx_list (a : Bs) : (tx a).toList = a := by rw [Lib.toList_data]; rfl

set_option maxHeartbeats 16000000 in
theorem whole22 (a : Option Addr) (cap : Nat) (V : List It) (w : World) (hl : V.length ≤ 1000000) (hp : ∀ y ∈ V, y.path.length ≤ 100000) (hd : ∀ y ∈ V, y.data.length ≤ 1000000) (hV : ValG w a 7 (V.map itC)) (hW : WholeOk V) :
    Calls Tryz.prog 20 #[.slice a V.length cap] w fun e w' => e = .returned (.bool true) ∧ Below w.heap.size w w' := by
  obtain ⟨x0, hx0, hx1, hx2, hx3⟩ := hW.head
  have hpos : 0 < V.length := (List.getElem?_eq_some_iff.1 hx0).1
  obtain ⟨P, o, rfl, hP, _⟩ := hV.at (i := 0) (xs := itC x0) (by rw [List.getElem?_map, hx0]; rfl)
  have HV := Lib.hid (fun W (hb : Below w.heap.size w W) => hV.below hb)
  have HW := Lib.hid hW
  have HP := Lib.hid (And.intro hp hd)
  have HL := Lib.hid hl
  have hl' : (V.length : Int) ≤ 1000000 := by omega
  have hn0 : ¬ (V.length : Int) = 0 := by omega
  have hn1 : ((V.length : Int) == 0) = false := by simpa using hn0
  have hn2 : (0 : Int) < (V.length : Int) := by omega
  obtain ⟨c0, c1, c2, _⟩ := it_cells hV hx0
  rw [Nat.zero_mul, Nat.add_zero] at c0 c1 c2
  rw [hx2] at c1
  rw [hx3] at c2
  rw [hx1] at c0
  have t1 : (tx [47]).toList = [47] := tx_list _
  have t2 : ((tx [47]).toList == [47]) = true := by rw [t1]; rfl
  clear hV hW hp hd hl hx0 hx1 hx2 hx3 hpos
  go_enter Tryz.func20, Tryz.ntmps20
  go_wp2_with fail
  clear c0 c1 c2 t1 t2 hn0 hn1 hn2
  go_loopw [3] (fun ii wr => ∃ i : Nat, i ≤ V.length ∧ ii = .int .i64 (i : Int) ∧ Hid (Below w.heap.size w wr)) (fun ii _ => V.length - (intOf ii).toNat)
  case atStart => exact ⟨0, by omega, rfl, Below.refl _ _⟩
  case round =>
    obtain ⟨i, hi, rfl, B⟩ := hrel
    by_cases hlt : i < V.length
    · obtain ⟨x, hx⟩ : ∃ x, V[i]? = some x := ⟨_, List.getElem?_eq_getElem hlt⟩
      have i1 : (i : Int) < (V.length : Int) := by omega
      have i2 : (0 : Int) ≤ (i : Int) := by omega
      have HX := Lib.hid hx
      clear hx hlt
      go_wp2_with fail
      go_loopw [4, 5, 6, 7] (fun n1 n2 n3 kk ww => ∃ k : Nat, k ≤ V.length ∧ n1 = .int .i64 (cntN V x k : Int) ∧ n2 = .int .i64 (cntD V x k : Int) ∧ n3 = .int .i64 (cntP V x k : Int) ∧ kk = .int .i64 (k : Int) ∧ Hid (Below w.heap.size w ww)) (fun _ _ _ kk _ => V.length - (intOf kk).toNat)
      case atStart =>
        obtain ⟨_, _, e1, e2, e3⟩ := cnt_one V x
        exact ⟨0, by omega, by rw [e1]; rfl, by rw [e2]; rfl, by rw [e3]; rfl, rfl, B.out⟩
      case round =>
        obtain ⟨k, hk, rfl, rfl, rfl, rfl, B2⟩ := hrel
        by_cases hlt : k < V.length
        · obtain ⟨y, hy⟩ : ∃ y, V[k]? = some y := ⟨_, List.getElem?_eq_getElem hlt⟩
          obtain ⟨c0, c1, c2, c3, c4, c5, c6⟩ := it_cells (HV.out _ B2.out) hy
          obtain ⟨d0, d1, d2, d3, d4, d5, d6⟩ := it_cells (HV.out _ B2.out) HX.out
          have k1 : (k : Int) < (V.length : Int) := by omega
          have k2 : (0 : Int) ≤ (k : Int) := by omega
          have HY := Lib.hid hy
          have CL := Lib.hid (cnt_le V x k)
          have HSM := Lib.hid (HW.out.same i k x y HX.out hy)
          have HPS := Lib.hid (cntP_step (x := x) hy)
          have b1 : (cntN V x k : Int) ≤ 1000000 := by have := CL.out; have := HL.out; omega
          have b2 : (cntD V x k : Int) ≤ 1000000 := by have := CL.out; have := HL.out; omega
          have b3 : (cntP V x k : Int) ≤ 1000000 := by have := CL.out; have := HL.out; omega
          clear hy hlt
          by_cases g : y.node = x.node
          · have g1 : (y.node == x.node) = true := by simpa using g
            rw [g] at c1
            have HP1 : Hid (cntP V x (k + 1) = cntP V x k + 1) := by show _ = _; rw [HPS.out, if_pos g]
            have HG := Lib.hid (HSM.out g)
            clear g HPS HSM
            go_upto_region 10 with fail
            clear c0 c2 c3 c4 c5 c6 d0 d2 d3 d4 d5 d6
            go_quiet (fail)
            have BW := Lib.hid (below_drewN B2.out nq)
            clear c1 d1 B2
            generalize World.drewN _ nq = W2 at *
            obtain ⟨c0, c1, c2, c3, c4, c5, c6⟩ := it_cells (HV.out _ BW.out) HY.out
            obtain ⟨d0, d1, d2, d3, d4, d5, d6⟩ := it_cells (HV.out _ BW.out) HX.out
            rw [HG.out.1] at c2 c3 c4 c5
            rw [HG.out.2] at c6
            clear c0 c1 d0 d1
            go_wp2_with fail
            go_quiet (fail)
            have BW2 := Lib.hid (below_drewN BW.out nq)
            clear c2 c3 c4 c5 c6 d2 d3 d4 d5 d6 BW
            have BW := BW2
            clear BW2
            generalize World.drewN _ nq = W3 at *
            obtain ⟨c0, c1, c2, c3, c4, c5, c6⟩ := it_cells (HV.out _ BW.out) HY.out
            clear c1 c3 c4 c5 c6
            by_cases hk0 : k = 0
            · have z1 : ((k : Int) == 0) = true := by rw [hk0]; rfl
              have HN : Hid (cntN V x (k + 1) = cntN V x k ∧ cntD V x (k + 1) = cntD V x k) := by
                obtain ⟨q1, q2, q3, q4, _⟩ := cnt_one V x
                subst hk0
                exact ⟨q1.trans q3.symm, q2.trans q4.symm⟩
              clear hk0
              go_wp2_with fail
              go_roundw
              case rel => exact ⟨k + 1, by omega, by rw [HN.out.1], by rw [HN.out.2], by rw [HP1.out] <;> go_num, by go_num, BW⟩
              case measure => simp [intOf] <;> omega
            · have z1 : ((k : Int) == 0) = false := by rw [beq_eq_false_iff_ne]; omega
              have z2 : ¬ (k : Int) = 0 := by omega
              obtain ⟨hn0, hn1, A0, A1⟩ := HW.out.up k y (by omega) HY.out
              have HNS := Lib.hid (cntN_step (x := x) HY.out (by omega : 0 < k))
              have HDS := Lib.hid (cntD_step (x := x) HY.out (by omega : 0 < k))
              have HC1 := HP.out.1 y (List.mem_of_getElem? HY.out)
              have HU := Lib.hid (fun W => up22 (tx y.path) W (by rw [tx_size]; exact HC1) (by rw [tx_size]; exact List.length_pos_iff.2 hn0))
              have HAT := Lib.hid (fun W (hb : Below w.heap.size w W) => at22 (some ⟨P, o, none⟩) cap V (tx (upP y.path).1) W HL.out (HV.out W hb))
              rw [tx_bts] at HU HAT
              obtain ⟨t1, t2⟩ := txt_no (s := tx (upP y.path).2) (l := []) (by rw [tx_bts]; exact hn1)
              generalize atP V (upP y.path).1 = A at *
              have a1 : ¬ (k : Int) ≤ A := by omega
              have a2 : ¬ A < 0 := by omega
              clear hn0 hn1 A0 A1 HC1 hk0
              by_cases hq : (upP y.path).1 = x.path
              · rw [hq] at HU HAT
                have HN1 : Hid (cntN V x (k + 1) = cntN V x k + 1) := by show _ = _; rw [HNS.out, if_pos hq]
                by_cases hk2 : y.st.kind = 2
                · have HD1 : Hid (cntD V x (k + 1) = cntD V x k + 1) := by show _ = _; rw [HDS.out, if_pos ⟨hq, hk2⟩]
                  have HKK := Lib.hid hk2
                  clear hq hk2 HNS HDS
                  go_wp2_with fail
                  refine (HU.out _).mono ?_
                  rintro e W5 ⟨rfl, B5⟩
                  have BW5 := Lib.hid (BW.out.trans (B5.mono BW.out.size))
                  obtain ⟨c0, c1, c2', c3, c4, c5, c6⟩ := it_cells (HV.out _ BW5.out) HY.out
                  obtain ⟨d0, d1, d2, d3, d4, d5, d6⟩ := it_cells (HV.out _ BW5.out) HX.out
                  first | rw [HKK.out] at c2' | skip
                  clear B5 BW c0 c1 c3 c4 c5 c6 d1 d2 d3 d4 d5 d6
                  have BW := BW5
                  clear BW5
                  go_wp2_with fail
                  refine (HAT.out _ BW.out).mono ?_
                  rintro e W6 ⟨rfl, rfl⟩
                  go_wp2_with fail
                  refine (HAT.out _ BW.out).mono ?_
                  rintro e W6 ⟨rfl, rfl⟩
                  go_wp2_with fail
                  go_roundw
                  case rel => exact ⟨k + 1, by omega, by rw [HN1.out] <;> go_num, by rw [HD1.out] <;> go_num, by rw [HP1.out] <;> go_num, by go_num, BW⟩
                  case measure => simp [intOf] <;> omega
                · have HD1 : Hid (cntD V x (k + 1) = cntD V x k) := by show _ = _; rw [HDS.out, if_neg (fun q => hk2 q.2)]; rfl
                  have k3 : (y.st.kind == 2) = false := by simpa using hk2
                  clear hq HNS HDS
                  go_wp2_with fail
                  refine (HU.out _).mono ?_
                  rintro e W5 ⟨rfl, B5⟩
                  have BW5 := Lib.hid (BW.out.trans (B5.mono BW.out.size))
                  obtain ⟨c0, c1, c2', c3, c4, c5, c6⟩ := it_cells (HV.out _ BW5.out) HY.out
                  obtain ⟨d0, d1, d2, d3, d4, d5, d6⟩ := it_cells (HV.out _ BW5.out) HX.out
                  first | rw [HKK.out] at c2' | skip
                  clear B5 BW c0 c1 c3 c4 c5 c6 d1 d2 d3 d4 d5 d6
                  have BW := BW5
                  clear BW5
                  go_wp2_with fail
                  refine (HAT.out _ BW.out).mono ?_
                  rintro e W6 ⟨rfl, rfl⟩
                  go_wp2_with fail
                  refine (HAT.out _ BW.out).mono ?_
                  rintro e W6 ⟨rfl, rfl⟩
                  go_wp2_with fail
                  go_roundw
                  case rel => exact ⟨k + 1, by omega, by rw [HN1.out] <;> go_num, by rw [HD1.out], by rw [HP1.out] <;> go_num, by go_num, BW⟩
                  case measure => simp [intOf] <;> omega
              · have HN1 : Hid (cntN V x (k + 1) = cntN V x k) := by show _ = _; rw [HNS.out, if_neg hq]; rfl
                have HD1 : Hid (cntD V x (k + 1) = cntD V x k) := by show _ = _; rw [HDS.out, if_neg (fun q => hq q.1)]; rfl
                obtain ⟨t3, t4⟩ : ¬ (tx (upP y.path).1).toList = (tx x.path).toList ∧ ((tx (upP y.path).1).toList == (tx x.path).toList) = false := by
                  rw [tx_list, tx_list]; exact ⟨hq, by simpa using hq⟩
                clear hq HNS HDS
                go_wp2_with fail
                refine (HU.out _).mono ?_
                rintro e W5 ⟨rfl, B5⟩
                have BW5 := Lib.hid (BW.out.trans (B5.mono BW.out.size))
                obtain ⟨c0, c1, c2', c3, c4, c5, c6⟩ := it_cells (HV.out _ BW5.out) HY.out
                obtain ⟨d0, d1, d2, d3, d4, d5, d6⟩ := it_cells (HV.out _ BW5.out) HX.out
                first | rw [HKK.out] at c2' | skip
                clear B5 BW c0 c1 c3 c4 c5 c6 d1 d2 d3 d4 d5 d6
                have BW := BW5
                clear BW5
                go_wp2_with fail
                refine (HAT.out _ BW.out).mono ?_
                rintro e W6 ⟨rfl, rfl⟩
                go_wp2_with fail
                refine (HAT.out _ BW.out).mono ?_
                rintro e W6 ⟨rfl, rfl⟩
                go_wp2_with fail
                go_roundw
                case rel => exact ⟨k + 1, by omega, by rw [HN1.out], by rw [HD1.out], by rw [HP1.out] <;> go_num, by go_num, BW⟩
                case measure => simp [intOf] <;> omega
          · have g1 : (y.node == x.node) = false := by simpa using g
            have HP1 : Hid (cntP V x (k + 1) = cntP V x k) := by show _ = _; rw [HPS.out, if_neg g]; rfl
            clear HPS HSM
            go_upto_region 10 with fail
            clear c0 c2 c3 c4 c5 c6 d0 d2 d3 d4 d5 d6
            go_quiet (fail)
            have BW := Lib.hid (below_drewN B2.out nq)
            clear c1 d1 B2
            generalize World.drewN _ nq = W3 at *
            obtain ⟨c0, c1, c2, c3, c4, c5, c6⟩ := it_cells (HV.out _ BW.out) HY.out
            clear c1 c3 c4 c5 c6
            by_cases hk0 : k = 0
            · have z1 : ((k : Int) == 0) = true := by rw [hk0]; rfl
              have HN : Hid (cntN V x (k + 1) = cntN V x k ∧ cntD V x (k + 1) = cntD V x k) := by
                obtain ⟨q1, q2, q3, q4, _⟩ := cnt_one V x
                subst hk0
                exact ⟨q1.trans q3.symm, q2.trans q4.symm⟩
              clear hk0
              go_wp2_with fail
              go_roundw
              case rel => exact ⟨k + 1, by omega, by rw [HN.out.1], by rw [HN.out.2], by rw [HP1.out], by go_num, BW⟩
              case measure => simp [intOf] <;> omega
            · have z1 : ((k : Int) == 0) = false := by rw [beq_eq_false_iff_ne]; omega
              have z2 : ¬ (k : Int) = 0 := by omega
              obtain ⟨hn0, hn1, A0, A1⟩ := HW.out.up k y (by omega) HY.out
              have HNS := Lib.hid (cntN_step (x := x) HY.out (by omega : 0 < k))
              have HDS := Lib.hid (cntD_step (x := x) HY.out (by omega : 0 < k))
              have HC1 := HP.out.1 y (List.mem_of_getElem? HY.out)
              have HU := Lib.hid (fun W => up22 (tx y.path) W (by rw [tx_size]; exact HC1) (by rw [tx_size]; exact List.length_pos_iff.2 hn0))
              have HAT := Lib.hid (fun W (hb : Below w.heap.size w W) => at22 (some ⟨P, o, none⟩) cap V (tx (upP y.path).1) W HL.out (HV.out W hb))
              rw [tx_bts] at HU HAT
              obtain ⟨t1, t2⟩ := txt_no (s := tx (upP y.path).2) (l := []) (by rw [tx_bts]; exact hn1)
              generalize atP V (upP y.path).1 = A at *
              have a1 : ¬ (k : Int) ≤ A := by omega
              have a2 : ¬ A < 0 := by omega
              clear hn0 hn1 A0 A1 HC1 hk0
              by_cases hq : (upP y.path).1 = x.path
              · rw [hq] at HU HAT
                have HN1 : Hid (cntN V x (k + 1) = cntN V x k + 1) := by show _ = _; rw [HNS.out, if_pos hq]
                by_cases hk2 : y.st.kind = 2
                · have HD1 : Hid (cntD V x (k + 1) = cntD V x k + 1) := by show _ = _; rw [HDS.out, if_pos ⟨hq, hk2⟩]
                  have HKK := Lib.hid hk2
                  clear hq hk2 HNS HDS
                  go_wp2_with fail
                  refine (HU.out _).mono ?_
                  rintro e W5 ⟨rfl, B5⟩
                  have BW5 := Lib.hid (BW.out.trans (B5.mono BW.out.size))
                  obtain ⟨c0, c1, c2', c3, c4, c5, c6⟩ := it_cells (HV.out _ BW5.out) HY.out
                  obtain ⟨d0, d1, d2, d3, d4, d5, d6⟩ := it_cells (HV.out _ BW5.out) HX.out
                  first | rw [HKK.out] at c2' | skip
                  clear B5 BW c0 c1 c3 c4 c5 c6 d1 d2 d3 d4 d5 d6
                  have BW := BW5
                  clear BW5
                  go_wp2_with fail
                  refine (HAT.out _ BW.out).mono ?_
                  rintro e W6 ⟨rfl, rfl⟩
                  go_wp2_with fail
                  refine (HAT.out _ BW.out).mono ?_
                  rintro e W6 ⟨rfl, rfl⟩
                  go_wp2_with fail
                  go_roundw
                  case rel => exact ⟨k + 1, by omega, by rw [HN1.out] <;> go_num, by rw [HD1.out] <;> go_num, by rw [HP1.out], by go_num, BW⟩
                  case measure => simp [intOf] <;> omega
                · have HD1 : Hid (cntD V x (k + 1) = cntD V x k) := by show _ = _; rw [HDS.out, if_neg (fun q => hk2 q.2)]; rfl
                  have k3 : (y.st.kind == 2) = false := by simpa using hk2
                  clear hq HNS HDS
                  go_wp2_with fail
                  refine (HU.out _).mono ?_
                  rintro e W5 ⟨rfl, B5⟩
                  have BW5 := Lib.hid (BW.out.trans (B5.mono BW.out.size))
                  obtain ⟨c0, c1, c2', c3, c4, c5, c6⟩ := it_cells (HV.out _ BW5.out) HY.out
                  obtain ⟨d0, d1, d2, d3, d4, d5, d6⟩ := it_cells (HV.out _ BW5.out) HX.out
                  first | rw [HKK.out] at c2' | skip
                  clear B5 BW c0 c1 c3 c4 c5 c6 d1 d2 d3 d4 d5 d6
                  have BW := BW5
                  clear BW5
                  go_wp2_with fail
                  refine (HAT.out _ BW.out).mono ?_
                  rintro e W6 ⟨rfl, rfl⟩
                  go_wp2_with fail
                  refine (HAT.out _ BW.out).mono ?_
                  rintro e W6 ⟨rfl, rfl⟩
                  go_wp2_with fail
                  go_roundw
                  case rel => exact ⟨k + 1, by omega, by rw [HN1.out] <;> go_num, by rw [HD1.out], by rw [HP1.out], by go_num, BW⟩
                  case measure => simp [intOf] <;> omega
              · have HN1 : Hid (cntN V x (k + 1) = cntN V x k) := by show _ = _; rw [HNS.out, if_neg hq]; rfl
                have HD1 : Hid (cntD V x (k + 1) = cntD V x k) := by show _ = _; rw [HDS.out, if_neg (fun q => hq q.1)]; rfl
                obtain ⟨t3, t4⟩ : ¬ (tx (upP y.path).1).toList = (tx x.path).toList ∧ ((tx (upP y.path).1).toList == (tx x.path).toList) = false := by
                  rw [tx_list, tx_list]; exact ⟨hq, by simpa using hq⟩
                clear hq HNS HDS
                go_wp2_with fail
                refine (HU.out _).mono ?_
                rintro e W5 ⟨rfl, B5⟩
                have BW5 := Lib.hid (BW.out.trans (B5.mono BW.out.size))
                obtain ⟨c0, c1, c2', c3, c4, c5, c6⟩ := it_cells (HV.out _ BW5.out) HY.out
                obtain ⟨d0, d1, d2, d3, d4, d5, d6⟩ := it_cells (HV.out _ BW5.out) HX.out
                first | rw [HKK.out] at c2' | skip
                clear B5 BW c0 c1 c3 c4 c5 c6 d1 d2 d3 d4 d5 d6
                have BW := BW5
                clear BW5
                go_wp2_with fail
                refine (HAT.out _ BW.out).mono ?_
                rintro e W6 ⟨rfl, rfl⟩
                go_wp2_with fail
                refine (HAT.out _ BW.out).mono ?_
                rintro e W6 ⟨rfl, rfl⟩
                go_wp2_with fail
                go_roundw
                case rel => exact ⟨k + 1, by omega, by rw [HN1.out], by rw [HD1.out], by rw [HP1.out], by go_num, BW⟩
                case measure => simp [intOf] <;> omega
        · obtain rfl : k = V.length := by omega
          have hnl : ¬ ((V.length : Int) < (V.length : Int)) := by omega
          obtain ⟨d0, d1, d2, d3, d4, d5, d6⟩ := it_cells (HV.out _ B2.out) HX.out
          clear d0 d1
          have hsz : ((tx x.data).size : Int) = (x.data.length : Int) := by rw [tx_size]
          rcases HW.out.count i x HX.out with ⟨e1, e2, e3, e4, e5⟩ | ⟨e1, e2, e3, e4⟩
          · rw [e1] at d2
            rw [e4] at d3
            rw [e3] at d4
            have z1 : ((cntP V x V.length : Nat) : Int) = 1 := by omega
            have HD6 := Lib.hid e5
            rw [e5] at d6
            have b1 : (cntD V x V.length : Int) ≤ 1000000 := by have := cnt_le V x V.length; have := HL.out; omega
            clear e1 e2 e3 e4 e5
            go_upto_region 26 with fail
            have BW : Hid (Below w.heap.size w (wr.alloc (.cells #[.int .i64 2, .int .i64 (cntN V x V.length : Nat), .int .i64 (2 + (cntD V x V.length : Nat)), .bool x.st.pin] 30))) := B2.out.alloc B2.out.size _
            have HROW := rowAt_alloc wr #[.int .i64 2, .int .i64 (cntN V x V.length : Nat), .int .i64 (2 + (cntD V x V.length : Nat)), .bool x.st.pin] 30
            have f0 := HROW.cell 0 (by simp)
            have f1 := HROW.cell 1 (by simp)
            have f2 := HROW.cell 2 (by simp)
            have d6 : (wr.alloc (.cells #[.int .i64 2, .int .i64 (cntN V x V.length : Nat), .int .i64 (2 + (cntD V x V.length : Nat)), .bool x.st.pin] 30)).cell? ⟨P, o + i * 7 + 6, none⟩ = some (.string ⟨#[]⟩) := by
              rw [(it_cells (HV.out _ BW.out) HX.out).2.2.2.2.2.2, HD6.out]; rfl
            have f3 := HROW.lt
            clear HROW d2 d3 d4 d5 B2
            generalize World.alloc wr _ = W4 at *
            generalize wr.heap.size = G4 at *
            go_wp2_with fail
            go_roundw
            case rel => exact ⟨i + 1, by omega, by go_num, BW⟩
            case measure => simp [intOf] <;> omega
          · rw [e1] at d2
            rw [e3] at d3
            rw [← e2] at d4
            have z1 : ((cntN V x V.length : Nat) : Int) = 0 := by omega
            clear e1 e2 e3 e4
            go_upto_region 29 with fail
            have BW : Hid (Below w.heap.size w (wr.alloc (.cells #[.int .i64 1, .int .i64 (x.data.length : Nat), .int .i64 (cntP V x V.length : Nat), .bool x.st.pin] 30))) := B2.out.alloc B2.out.size _
            have HROW := rowAt_alloc wr #[.int .i64 1, .int .i64 (x.data.length : Nat), .int .i64 (cntP V x V.length : Nat), .bool x.st.pin] 30
            have f0 := HROW.cell 0 (by simp)
            have f1 := HROW.cell 1 (by simp)
            have f2 := HROW.cell 2 (by simp)
            have d6 := (it_cells (HV.out _ BW.out) HX.out).2.2.2.2.2.2
            have f3 := HROW.lt
            clear HROW d2 d3 d4 d5 B2
            generalize World.alloc wr _ = W4 at *
            generalize wr.heap.size = G4 at *
            go_quiet (fail)
            have BW2 := Lib.hid (below_drewN BW.out nq)
            clear f0 f1 f2 d6 BW
            go_wp2_with fail
            go_roundw
            case rel => exact ⟨i + 1, by omega, by go_num, BW2⟩
            case measure => simp [intOf] <;> omega
    · obtain rfl : i = V.length := by omega
      have hnl : ¬ ((V.length : Int) < (V.length : Int)) := by omega
      go_wp2_with fail
      go_ret
      exact ⟨rfl, B.out⟩

end Go.Proofs.YtppdihpobokfnaaGreatDoor
