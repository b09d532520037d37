/- Walks: the model's laws' own functions: plain, up, at. -/
import Derived.Test.YtppdihpobokfnaaGreatDoorModW42
import Derived.Test.YtppdihpobokfnaaGreatDoorGPl2
import Derived.KernelRfl
set_option linter.unusedVariables false
set_option linter.unusedSimpArgs false
set_option maxRecDepth 100000
namespace Go.Proofs.YtppdihpobokfnaaGreatDoor
open Go.RowKit Go.Joins

theorem bts_get {s : ByteArray} {k : Nat} (h : k < s.size) : (bts s)[k]? = some (s[k]'h) := by
  have hk : k < (bts s).length := by simpa using h
  rw [List.getElem?_eq_getElem hk]
  show some (s.data.toList[k]'_) = _
  rw [Array.getElem_toList]
  rfl
theorem extract_dot (s : ByteArray) (f k : Nat) : bts (s.extract f k) = ((bts s).take k).drop f := by
  rw [bts_extract, List.drop_take]
/-- a part is one dot, or two -/
theorem dot_cases (x : ByteArray) : (bts x = [46]) ∨ (bts x ≠ [46] ∧ bts x = [46, 46]) ∨ (bts x ≠ [46] ∧ bts x ≠ [46, 46]) := by
  by_cases h1 : bts x = [46]
  · exact .inl h1
  · by_cases h2 : bts x = [46, 46]
    · exact .inr (.inl ⟨h1, h2⟩)
    · exact .inr (.inr ⟨h1, h2⟩)

set_option maxHeartbeats 4000000 in
theorem plain22 (s : ByteArray) (w : World) (hs : s.size ≤ 100000) :
    Calls Tryz.prog 24 #[.string s] w fun e w' => e = .returned (.bool (plainP (bts s))) ∧ w' = w := by
  have h1 : (s.size : Int) ≤ 100000 := by omega
  have HS := Lib.hid hs
  clear hs
  go_enter Tryz.func24, Tryz.ntmps24
  go_wp2_with fail
  go_loopw [3, 4] (fun ff jj wr => ∃ f k : Nat, f ≤ k ∧ k ≤ s.size + 1 ∧ ff = .int .i64 (f : Int) ∧ jj = .int .i64 (k : Int) ∧ Hid (k ≤ s.size → DotAt (bts s) f k) ∧ Hid (k = s.size + 1 → plainP (bts s) = true) ∧ w = wr) (fun _ jj _ => s.size + 1 - (intOf jj).toNat)
  case atStart => exact ⟨0, 0, by omega, by omega, rfl, rfl, (fun _ => DotAt.start _), (fun h => by omega), rfl⟩
  case round =>
    obtain ⟨f, k, hfk, hk, rfl, rfl, HD, HE, rfl⟩ := hrel
    by_cases hlt : k < s.size
    · have p0 : (0 : Int) ≤ (k : Int) := by omega
      have p1 : (k : Int) < (s.size : Int) := by omega
      have p2 : (k : Int) ≤ (s.size : Int) := by omega
      obtain ⟨c, hc⟩ : ∃ c : UInt8, s[k]'hlt = c := ⟨_, rfl⟩
      have hidx : ∀ w, (Instr.index 9 (.string s) (.int .i64 (k : Int))).run Tryz.prog w = .ok (.int .u8 (c.toNat : Int)) w := by
        intro w
        have hkk : (0 : Int) ≤ (k : Int) ∧ (k : Int) < (s.size : Int) := by omega
        have e1 : ((k : Int)).toNat = k := by omega
        simp [Instr.index, go_sem, Tryz.underlying9, e1, hlt, hc, asIntOf]
      have HC := Lib.hid (show (bts s)[k]? = some c by rw [bts_get hlt, hc])
      have HD2 := Lib.hid (HD.out (by omega))
      clear hc HD HE
      by_cases h0 : c = 47
      · subst h0
        have q1 : ((47 : UInt8).toNat : Int) = 47 := rfl
        have q2 : (((47 : UInt8).toNat : Int) != 47) = false := rfl
        have f0 : (0 : Int) ≤ (f : Int) := by omega
        have f1 : (f : Int) ≤ (k : Int) := by omega
        have EX := Lib.hid (extract_dot s f k)
        rcases dot_cases (s.extract f k) with g | ⟨g, g2⟩ | ⟨g, g2⟩
        · obtain ⟨t1, t2⟩ := txt_yes g
          have HB := Lib.hid (HD2.out.bad (.inl HC.out) (by rw [← EX.out, g]; rfl))
          clear g HC HD2 EX
          go_wp2_with fail
          go_ret
          exact ⟨by first | (rw [HB.out]; rfl) | rw [HB.out], rfl⟩
        · obtain ⟨t1, t2⟩ := txt_no g
          obtain ⟨t3, t4⟩ := txt_yes g2
          have HB := Lib.hid (HD2.out.bad (.inl HC.out) (by rw [← EX.out, g2]; rfl))
          clear g g2 HC HD2 EX
          go_wp2_with fail
          go_ret
          exact ⟨by first | (rw [HB.out]; rfl) | rw [HB.out], rfl⟩
        · obtain ⟨t1, t2⟩ := txt_no g
          obtain ⟨t3, t4⟩ := txt_no g2
          have HB := Lib.hid (HD2.out.slash HC.out (by rw [← EX.out]; unfold okD; simp only [beq_eq_false_iff_ne.2 g, beq_eq_false_iff_ne.2 g2]; rfl))
          clear g g2 HC HD2 EX
          go_wp2_with fail
          go_roundw
          case rel => exact ⟨k + 1, k + 1, by omega, by omega, by go_num, by go_num, (fun _ => HB.out), (fun h => by omega), trivial⟩
          case measure => simp [intOf] <;> omega
      · have q0 : ((c.toNat : Int) == 47) = false := by
          rw [beq_eq_false_iff_ne]
          intro q
          exact h0 (UInt8.toNat_inj.1 (by simpa using (show c.toNat = 47 by omega)))
        have q1 : ¬ ((c.toNat : Int) = 47) := by simpa using q0
        have q2 : ((c.toNat : Int) != 47) = true := by simpa using q0
        have HN := Lib.hid (HD2.out.more HC.out h0)
        clear h0 HC HD2
        go_wp2_with fail
        go_roundw
        case rel => exact ⟨f, k + 1, by omega, by omega, rfl, by go_num, (fun _ => HN.out), (fun h => by omega), trivial⟩
        case measure => simp [intOf] <;> omega
    · by_cases heq : k = s.size
      · subst heq
        have p1 : ¬ (s.size : Int) < (s.size : Int) := by omega
        have p2 : (s.size : Int) ≤ (s.size : Int) := by omega
        have f0 : (0 : Int) ≤ (f : Int) := by omega
        have f1 : (f : Int) ≤ (s.size : Int) := by omega
        have EX := Lib.hid (extract_dot s f s.size)
        have HC := Lib.hid (show s.size = (bts s).length by rw [bts_length])
        have HD2 := Lib.hid (HD.out (by omega))
        clear HD HE
        rcases dot_cases (s.extract f s.size) with g | ⟨g, g2⟩ | ⟨g, g2⟩
        · obtain ⟨t1, t2⟩ := txt_yes g
          have HB := Lib.hid (HD2.out.bad (.inr HC.out) (by rw [← EX.out, g]; rfl))
          clear g HC HD2 EX
          go_wp2_with fail
          go_ret
          exact ⟨by first | (rw [HB.out]; rfl) | rw [HB.out], rfl⟩
        · obtain ⟨t1, t2⟩ := txt_no g
          obtain ⟨t3, t4⟩ := txt_yes g2
          have HB := Lib.hid (HD2.out.bad (.inr HC.out) (by rw [← EX.out, g2]; rfl))
          clear g g2 HC HD2 EX
          go_wp2_with fail
          go_ret
          exact ⟨by first | (rw [HB.out]; rfl) | rw [HB.out], rfl⟩
        · obtain ⟨t1, t2⟩ := txt_no g
          obtain ⟨t3, t4⟩ := txt_no g2
          have HB := Lib.hid (HD2.out.last HC.out (by rw [← EX.out]; unfold okD; simp only [beq_eq_false_iff_ne.2 g, beq_eq_false_iff_ne.2 g2]; rfl))
          clear g g2 HC HD2 EX
          go_wp2_with fail
          go_roundw
          case rel => exact ⟨s.size + 1, s.size + 1, by omega, by omega, by go_num, by go_num, (fun h => by omega), (fun _ => HB.out), trivial⟩
          case measure => simp [intOf] <;> omega
      · have p1 : ¬ (k : Int) ≤ (s.size : Int) := by omega
        have HB := Lib.hid (HE.out (by omega))
        clear HD HE
        go_wp2_with fail
        go_ret
        exact ⟨by first | (rw [HB.out]; rfl) | rw [HB.out], rfl⟩

theorem lastU_step {s : ByteArray} {j : Nat} (h : j < s.size) : lastU (bts s) (j + 1) = if (s[j]'h) = 47 then j else lastU (bts s) j := by
  rw [lastU, bts_get h]
  by_cases c : (s[j]'h) = 47
  · rw [if_pos c, if_pos (by rw [c])]
  · rw [if_neg c, if_neg (fun q => c (Option.some.inj q))]

set_option maxHeartbeats 4000000 in
theorem up22 (s : ByteArray) (w : World) (hs : s.size ≤ 100000) (h0 : 0 < s.size) :
    Calls Tryz.prog 61 #[.string s] w fun e w' => e = .returned (.tuple #[.string (tx (upP (bts s)).1), .string (tx (upP (bts s)).2)]) ∧ Below w.heap.size w w' := by
  have h1 : (s.size : Int) ≤ 100000 := by omega
  have h2 : (1 : Int) ≤ (s.size : Int) := by omega
  have HS := Lib.hid (And.intro hs h0)
  clear hs h0
  go_enter Tryz.func61, Tryz.ntmps61
  go_wp2_with fail
  go_loopw [4, 5] (fun nn jj wr => ∃ z j : Nat, j ≤ s.size ∧ nn = .int .i64 (z : Int) ∧ jj = .int .i64 (j : Int) ∧ Hid (z = lastU (bts s) j) ∧ w = wr) (fun _ jj _ => s.size - (intOf jj).toNat)
  case atStart => exact ⟨0, 0, by omega, rfl, rfl, rfl, rfl⟩
  case round =>
    obtain ⟨z, k, hk, rfl, rfl, HZ, rfl⟩ := hrel
    by_cases hlt : k < s.size
    · have p0 : (0 : Int) ≤ (k : Int) := by omega
      have p1 : (k : Int) < (s.size : Int) := by omega
      obtain ⟨c, hc⟩ : ∃ c : UInt8, s[k]'hlt = c := ⟨_, rfl⟩
      have hidx : ∀ w, (Instr.index 9 (.string s) (.int .i64 (k : Int))).run Tryz.prog w = .ok (.int .u8 (c.toNat : Int)) w := by
        intro w
        have hkk : (0 : Int) ≤ (k : Int) ∧ (k : Int) < (s.size : Int) := by omega
        have e1 : ((k : Int)).toNat = k := by omega
        simp [Instr.index, go_sem, Tryz.underlying9, e1, hlt, hc, asIntOf]
      have HST := Lib.hid (lastU_step hlt)
      by_cases h0 : c = 47
      · have q0 : ((c.toNat : Int) == 47) = true := by rw [h0]; rfl
        have HK : Hid (k = lastU (bts s) (k + 1)) := by show k = _; rw [HST.out, if_pos (hc.trans h0)]
        clear hc h0 HZ HST
        go_wp2_with fail
        go_roundw
        case rel => exact ⟨k, k + 1, by omega, rfl, by go_num, HK, trivial⟩
        case measure => simp [intOf] <;> omega
      · have q0 : ((c.toNat : Int) == 47) = false := by
          rw [beq_eq_false_iff_ne]
          intro q
          exact h0 (UInt8.toNat_inj.1 (by simpa using (show c.toNat = 47 by omega)))
        have HK : Hid (z = lastU (bts s) (k + 1)) := by show z = _; rw [HST.out, if_neg (by rw [hc]; exact h0), HZ.out]
        clear hc h0 HZ HST
        go_wp2_with fail
        go_roundw
        case rel => exact ⟨z, k + 1, by omega, rfl, by go_num, HK, trivial⟩
        case measure => simp [intOf] <;> omega
    · obtain rfl : k = s.size := by omega
      have hnl : ¬ ((s.size : Int) < (s.size : Int)) := by omega
      have HU : Hid (z = lastU (bts s) (bts s).length ∧ z < s.size) := by
        have e := bts_length s
        have := lastU_lt (bts s) s.size HS.out.2
        have hz := HZ.out
        exact ⟨by rw [e]; exact hz, by omega⟩
      clear HZ
      by_cases c : z = 0
      · subst c
        have i1 : (0 : Int) ≤ 1 := by omega
        go_wp2_with fail
        go_quiet (fail)
        have B := fun (V : World) => below_drewN (Below.refl V.heap.size V) nq
        go_wp2_with fail
        go_ret2
        refine ⟨?_, B _⟩
        have e1 : upP (bts s) = ([47], (bts s).drop 1) := by unfold upP; rw [← HU.out.1, if_pos rfl]
        rw [e1]
        have e2 : s.extract 1 s.size = tx ((bts s).drop 1) := bts_ext (by rw [bts_from, tx_bts])
        rw [← e2]
        rfl
      · have i0 : (0 : Int) ≤ (z : Int) := by omega
        have i1 : (z : Int) ≤ (s.size : Int) := by have := HU.out.2; omega
        have i2 : (z : Int) + 1 ≤ (s.size : Int) := by have := HU.out.2; omega
        have i3 : (0 : Int) ≤ (z : Int) + 1 := by omega
        have i4 : ((z : Int) == 0) = false := by simpa using c
        have HC := Lib.hid c
        clear c
        go_wp2_with fail
        go_quiet (fail)
        have B := fun (V : World) => below_drewN (Below.refl V.heap.size V) nq
        go_wp2_with fail
        go_ret2
        refine ⟨?_, B _⟩
        have e1 : upP (bts s) = ((bts s).take z, (bts s).drop (z + 1)) := by unfold upP; rw [← HU.out.1, if_neg HC.out]
        rw [e1]
        have e2 : s.extract (z + 1) s.size = tx ((bts s).drop (z + 1)) := bts_ext (by rw [bts_from, tx_bts])
        have e3 : s.extract 0 z = tx ((bts s).take z) := bts_ext (by rw [bts_to, tx_bts])
        rw [← e2, ← e3]
        rfl

set_option maxHeartbeats 4000000 in
theorem at22 (a : Option Addr) (cap : Nat) (V : List It) (p : ByteArray) (w : World) (hl : V.length ≤ 1000000) (hV : ValG w a 7 (V.map itC)) :
    Calls Tryz.prog 62 #[.slice a V.length cap, .string p] w fun e w' => e = .returned (.int .i64 (atP V (bts p))) ∧ w' = w := by
  have HV := Lib.hid hV
  have hl' : (V.length : Int) ≤ 1000000 := by omega
  clear hV hl
  go_enter Tryz.func62, Tryz.ntmps62
  go_wp2_with fail
  go_loopw [5] (fun jj wr => ∃ k : Nat, k ≤ V.length ∧ jj = .int .i64 (k : Int) ∧ Hid (∀ j y, j < k → V[j]? = some y → y.path ≠ bts p) ∧ w = wr) (fun jj _ => V.length - (intOf jj).toNat)
  case atStart => exact ⟨0, by omega, rfl, (fun j y h => by omega), rfl⟩
  case round =>
    obtain ⟨k, hk, rfl, HP, rfl⟩ := hrel
    by_cases hlt : k < V.length
    · obtain ⟨x, hx⟩ : ∃ x, V[k]? = some x := ⟨_, List.getElem?_eq_getElem hlt⟩
      obtain ⟨P, o, rfl, hP, hA⟩ := HV.out.at (i := k) (xs := itC x) (by rw [List.getElem?_map, hx]; rfl)
      have c0 := hA 0 _ rfl
      rw [Nat.add_zero] at c0
      clear hA
      have i1 : (k : Int) < (V.length : Int) := by omega
      have i2 : (0 : Int) ≤ (k : Int) := by omega
      have HX := Lib.hid hx
      clear hx
      by_cases c : x.path = bts p
      · have t1 : ((tx x.path).toList == p.toList) = true := by rw [Lib.toList_data, Lib.toList_data]; simpa [tx] using c
        have t2 : (tx x.path).toList = p.toList := by simpa using t1
        have HA : Hid (atP V (bts p) = (k : Int)) := by
          show atP V (bts p) = (k : Int)
          unfold atP
          have : V.findIdx? (fun y => y.path == bts p) = some k := by
            rw [List.findIdx?_eq_some_iff_getElem]
            obtain ⟨h9, e9⟩ := List.getElem?_eq_some_iff.1 HX.out
            refine ⟨h9, by rw [e9]; simpa using c, fun j hj => ?_⟩
            have := HP.out j _ hj (List.getElem?_eq_getElem (by omega))
            simpa using this
          rw [this]
        clear c HP
        go_wp2_with fail
        go_ret
        exact ⟨by rw [HA.out]; rfl, rfl⟩
      · have t1 : ((tx x.path).toList == p.toList) = false := by
          rw [beq_eq_false_iff_ne]
          intro q
          rw [Lib.toList_data, Lib.toList_data] at q
          exact c (by simpa [tx] using q)
        have t2 : ¬ (tx x.path).toList = p.toList := by simpa using t1
        have HN : Hid (∀ j y, j < k + 1 → V[j]? = some y → y.path ≠ bts p) := fun j y hj hy => by
          by_cases q : j = k
          · subst q
            rw [HX.out] at hy
            cases hy
            exact c
          · exact HP.out j y (by omega) hy
        clear c HP
        go_wp2_with fail
        go_roundw
        case rel => exact ⟨k + 1, by omega, by go_num, HN, trivial⟩
        case measure => simp [intOf] <;> omega
    · obtain rfl : k = V.length := by omega
      have hnl : ¬ ((V.length : Int) < (V.length : Int)) := by omega
      have HA : Hid (atP V (bts p) = -1) := by
        show atP V (bts p) = -1
        unfold atP
        have : V.findIdx? (fun y => y.path == bts p) = none := by
          rw [List.findIdx?_eq_none_iff]
          intro y hy
          obtain ⟨j, hj, e⟩ := List.getElem_of_mem hy
          have := HP.out j y hj (by rw [List.getElem?_eq_getElem hj, e])
          simpa using this
        rw [this]
      go_wp2_with fail
      go_ret
      exact ⟨by rw [HA.out]; rfl, rfl⟩

end Go.Proofs.YtppdihpobokfnaaGreatDoor
