/- For every input the law glissadelaw22.ModelPaths returns true; within the numbers of calls that the law itself asks; else it returns true at once; a tied card: two package variables of unicode/utf8 are laid as the text lays them; the card speaks of a pruned copy of the project. -/
import Derived.BigQuiet
import Derived.Deep.QuietTactic
import Derived.Deep.RegionHeld3
import Derived.SevenTiedAt
import Derived.Test.YtppdihpobokfnaaGreatDoorModW41
import Derived.Test.YtppdihpobokfnaaGreatDoorGJ
import Derived.Test.YtppdihpobokfnaaGreatDoorTie
import Derived.Test.YtppdihpobokfnaaGreatDoorCards
import Derived.Test.YtppdihpobokfnaaGreatDoorGBase
set_option linter.unusedVariables false
set_option linter.unusedSimpArgs false
set_option maxRecDepth 100000
namespace Go.Proofs.YtppdihpobokfnaaGreatDoor
open Go.RowKit Go.Joins

theorem ten_cells {W : World} {b : Nat} {v0 v1 v2 v3 v4 v5 v6 v7 v8 v9 : Value} (h : RowAt W b [v0, v1, v2, v3, v4, v5, v6, v7, v8, v9]) : W.cell? ⟨b, 0, none⟩ = some v0 ∧ W.cell? ⟨b, 1, none⟩ = some v1 ∧ W.cell? ⟨b, 2, none⟩ = some v2 ∧ W.cell? ⟨b, 3, none⟩ = some v3 ∧ W.cell? ⟨b, 4, none⟩ = some v4 ∧ W.cell? ⟨b, 5, none⟩ = some v5 ∧ W.cell? ⟨b, 6, none⟩ = some v6 ∧ W.cell? ⟨b, 7, none⟩ = some v7 ∧ W.cell? ⟨b, 8, none⟩ = some v8 ∧ W.cell? ⟨b, 9, none⟩ = some v9 := ⟨h.cell 0 (by simp), h.cell 1 (by simp), h.cell 2 (by simp), h.cell 3 (by simp), h.cell 4 (by simp), h.cell 5 (by simp), h.cell 6 (by simp), h.cell 7 (by simp), h.cell 8 (by simp), h.cell 9 (by simp)⟩

set_option maxHeartbeats 16000000 in
theorem walk_modelPaths (w : World) (a : Option Addr) (cap : Nat) (l : List Cl) (hle : l.length ≤ cap) (hcm : cap ≤ maxLen) (hV : ValG w a 7 (l.map callC)) (hQ : ∀ c ∈ l, ClOk c) (path : ByteArray) (hp : path.size ≤ 140737488351232) (name : ByteArray) (hn : name.size ≤ 140737488351232) :
    Calls Tryz.prog 4 #[.slice a l.length cap, .string path, .string name] w fun e w' => e = .returned (.bool true) ∧ Below w.heap.size w w' := by
  have HBY := Lib.hid (beyond22 a cap l 40 3000 w (by omega) (by omega) (by omega) hV)
  have HV := Lib.hid (And.intro hV hQ)
  have hp' : (path.size : Int) ≤ 9223372036854775807 := by omega
  have hn' : (name.size : Int) ≤ 9223372036854775807 := by omega
  clear hle hcm hV hQ hp hn
  go_enter Tryz.func4, Tryz.ntmps4
  go_wp2_with fail
  refine HBY.out.mono ?_
  rintro e W ⟨⟨b, rfl, hlen⟩, hb⟩
  have B := Lib.hid hb
  have HLEN := Lib.hid hlen
  clear hb hlen HBY
  cases b with
  | true =>
    go_wp2_with fail
    refine (lives22 _).mono ?_
    rintro e W9 ⟨rfl, hb⟩
    have B9 := Lib.hid (B.out.trans (hb.mono B.out.size))
    clear hb
    go_wp2_with fail
    go_ret
    exact ⟨rfl, B9.out⟩
  | false =>
    have HL := Lib.hid (HLEN.out rfl)
    clear HLEN
    by_cases c1 : (200 : Int) < (path.size : Int)
    · go_wp2_with fail
      refine (lives22 _).mono ?_
      rintro e W9 ⟨rfl, hb⟩
      have B9 := Lib.hid (B.out.trans (hb.mono B.out.size))
      clear hb
      go_wp2_with fail
      go_ret
      exact ⟨rfl, B9.out⟩
    by_cases c2 : (30 : Int) < (name.size : Int)
    · go_wp2_with fail
      refine (lives22 _).mono ?_
      rintro e W9 ⟨rfl, hb⟩
      have B9 := Lib.hid (B.out.trans (hb.mono B.out.size))
      clear hb
      go_wp2_with fail
      go_ret
      exact ⟨rfl, B9.out⟩
    by_cases c3 : bts path = [47]
    · obtain ⟨t1, t2⟩ := txt_yes c3
      clear c3
      go_wp2_with fail
      refine (lives22 _).mono ?_
      rintro e W9 ⟨rfl, hb⟩
      have B9 := Lib.hid (B.out.trans (hb.mono B.out.size))
      clear hb
      go_wp2_with fail
      go_ret
      exact ⟨rfl, B9.out⟩
    obtain ⟨t1, t2⟩ := txt_no c3
    by_cases c4 : bts path = []
    · obtain ⟨t3, t4⟩ := txt_yes c4
      clear c3 c4
      go_wp2_with fail
      refine (lives22 _).mono ?_
      rintro e W9 ⟨rfl, hb⟩
      have B9 := Lib.hid (B.out.trans (hb.mono B.out.size))
      clear hb
      go_wp2_with fail
      go_ret
      exact ⟨rfl, B9.out⟩
    obtain ⟨t3, t4⟩ := txt_no c4
    obtain ⟨c, r, hcr⟩ : ∃ c r, bts path = c :: r := by
      cases h : bts path with
      | nil => exact absurd h c4
      | cons c r => exact ⟨c, r, rfl⟩
    have hidx : ∀ w, (Instr.index 9 (.string path) (.int .i64 0)).run Tryz.prog w = .ok (.int .u8 (c.toNat : Int)) w := by
      intro w
      have hlt : 0 < path.size := by rw [← bts_length path, hcr]; simp
      have hc : path[0]'hlt = c := by
        have hlt2 : 0 < (bts path).length := by simpa using hlt
        have e : (bts path)[0]'hlt2 = path[0]'hlt := by
          show path.data.toList[0]'_ = _
          rw [Array.getElem_toList]
          rfl
        rw [← e]
        simp [hcr]
      have hkk : (0 : Int) < (path.size : Int) := by omega
      simp [Instr.index, go_sem, Tryz.underlying9, hlt, hc, asIntOf]
    by_cases c5 : c = 47
    rotate_left
    · have q0 : ((c.toNat : Int) == 47) = false := by
        rw [beq_eq_false_iff_ne]
        intro q
        exact c5 (UInt8.toNat_inj.1 (by simpa using (show c.toNat = 47 by omega)))
      have q1 : ¬ ((c.toNat : Int) = 47) := by simpa using q0
      have q2 : ((c.toNat : Int) != 47) = true := by simpa using q0
      have q3 : ¬ (c.toNat = 47) := by omega
      clear c3 c4 hcr c5
      go_wp2_with fail
      refine (lives22 _).mono ?_
      rintro e W9 ⟨rfl, hb⟩
      have B9 := Lib.hid (B.out.trans (hb.mono B.out.size))
      clear hb
      go_wp2_with fail
      go_ret
      exact ⟨rfl, B9.out⟩
    have q0 : ((c.toNat : Int) == 47) = true := by rw [c5]; rfl
    have q1 : (c.toNat : Int) = 47 := by rw [c5]; rfl
    have q2 : ((c.toNat : Int) != 47) = false := by rw [c5]; rfl
    have q3 : c.toNat = 47 := by rw [c5]; rfl
    have HR := Lib.hid (show bts path = 47 :: r ∧ r ≠ [] from ⟨by rw [hcr, c5], fun e => c3 (by rw [hcr, c5, e])⟩)
    have HS := Lib.hid (show path.size ≤ 200 ∧ name.size ≤ 30 by omega)
    clear c3 c4 hcr c5
    go_wp2_with fail
    refine (parts22 path _ (by have := HS.out.1; omega)).mono ?_
    rintro e W2 ⟨rfl, rfl⟩
    by_cases c6 : (14 : Int) < (slashes (bts path) : Int)
    · go_wp2_with fail
      refine (lives22 _).mono ?_
      rintro e W9 ⟨rfl, hb⟩
      have B9 := Lib.hid (B.out.trans (hb.mono B.out.size))
      clear hb
      go_wp2_with fail
      go_ret
      exact ⟨rfl, B9.out⟩
    have HS6 := Lib.hid (show slashes (bts path) ≤ 14 by omega)
    have HPL := Lib.hid (lv_played (W := W2) B.out 20 ⟨by omega, by omega⟩ a cap l HV.out.1 HV.out.2 (by have := HL.out; omega) [] (fun p hp => by cases hp))
    go_wp2_with fail
    refine HPL.out.mono ?_
    rintro e W3 ⟨MB, rw0, rfl, hL, _⟩
    obtain ⟨N, m, hN, hL⟩ : ∃ N m, N ≤ 1000 ∧ Lv w MB N W3 m rw0 := ⟨_, _, by have := HL.out; omega, hL⟩
    have L := Lib.hid (And.intro hL hN)
    clear hL hN HPL HL B HV
    try clear W
    have HDO := Lib.hid (lv_stat L.out.1 (by have := L.out.2; omega) path)
    go_wp2_with fail
    refine HDO.out.mono ?_
    clear HDO
    rintro e W ⟨na, la, nc, lc, rw1, rfl, hL, _⟩
    obtain ⟨AE, AK, AS, AL, AP, hA⟩ : ∃ AE AK AS AL AP, (statF m (findP m (bts path))).e = AE ∧ (statF m (findP m (bts path))).st.kind = AK ∧ (statF m (findP m (bts path))).st.size = AS ∧ (statF m (findP m (bts path))).st.links = AL ∧ (statF m (findP m (bts path))).st.pin = AP := ⟨_, _, _, _, _, rfl, rfl, rfl, rfl, rfl⟩
    rw [hA.1, hA.2.1, hA.2.2.1, hA.2.2.2.1, hA.2.2.2.2]
    have HA := Lib.hid hA
    have L1 := Lib.hid (And.intro hL L.out.2)
    clear L hL hA
    try clear W3
    obtain ⟨b, hb⟩ : ∃ b, b = W.heap.size := ⟨_, rfl⟩
    have hW := L1.out.1.alloc #[.int .i64 AE, .int .i64 0, .string ⟨#[]⟩, .slice na 0 nc, .int .i64 AK, .int .i64 AS, .int .i64 AL, .bool AP, .slice la 0 lc, .bool false] 33
    rw [← hb] at hW
    go_upto_region 7 with fail
    rw [← hb]
    generalize W.alloc (.cells #[.int .i64 AE, .int .i64 0, .string ⟨#[]⟩, .slice na 0 nc, .int .i64 AK, .int .i64 AS, .int .i64 AL, .bool AP, .slice la 0 lc, .bool false] 33) = W4 at *
    obtain ⟨rs, hrs⟩ : ∃ rs, rs = (b, [.int .i64 AE, .int .i64 0, .string ⟨#[]⟩, .slice na 0 nc, .int .i64 AK, .int .i64 AS, .int .i64 AL, .bool AP, .slice la 0 lc, .bool false]) :: rw1 := ⟨_, rfl⟩
    have L2 := Lib.hid (show (Lv w MB (N + 1) W4 m rs ∧ (b, [.int .i64 AE, .int .i64 0, .string ⟨#[]⟩, .slice na 0 nc, .int .i64 AK, .int .i64 AS, .int .i64 AL, .bool AP, .slice la 0 lc, .bool false]) ∈ rs) ∧ N ≤ 1000 from ⟨⟨by rw [hrs]; exact hW, by rw [hrs]; exact List.mem_cons_self ..⟩, L1.out.2⟩)
    clear L1 hW hrs hb
    try clear W
    try clear rw1
    have HF : findP m (bts (⟨#[47, 46]⟩ ++ path)) = findP m (bts path) := by
      have e1 : bts (⟨#[47, 46]⟩ ++ path) = 47 :: ([46] ++ 47 :: r) := by
        have : bts (⟨#[47, 46]⟩ ++ path) = [47, 46] ++ bts path := by simp [bts]
        rw [this, HR.out.1]; rfl
      have hl := bts_length path
      have hsl := HS6.out
      rw [HR.out.1] at hl hsl
      have : slashes (47 :: r) = slashes r + 1 := by simp [slashes]
      rw [e1, HR.out.1]
      exact find_dot L2.out.1.1.inv HR.out.2 (by simp at hl; have := HS.out.1; omega) (by omega)
    have HFH := Lib.hid HF
    clear HF
    have hadd : ∀ w : World, (Op.stringOp .add ⟨#[47, 46]⟩ path).run Tryz.prog w = .ok (.string (⟨#[47, 46]⟩ ++ path)) w := fun w => run_string_add_sum w _ _ (by have := HS.out.1; have e : (⟨#[47, 46]⟩ : ByteArray).size = 2 := rfl; rw [e]; omega)
    go_region_held3 (fun V => V.cell? ⟨b, 0, none⟩ = some (.int .i64 AE) ∧ V.cell? ⟨b, 1, none⟩ = some (.int .i64 0) ∧ V.cell? ⟨b, 2, none⟩ = some (.string ⟨#[]⟩) ∧ V.cell? ⟨b, 3, none⟩ = some (.slice na 0 nc) ∧ V.cell? ⟨b, 4, none⟩ = some (.int .i64 AK) ∧ V.cell? ⟨b, 5, none⟩ = some (.int .i64 AS) ∧ V.cell? ⟨b, 6, none⟩ = some (.int .i64 AL) ∧ V.cell? ⟨b, 7, none⟩ = some (.bool AP) ∧ V.cell? ⟨b, 8, none⟩ = some (.slice la 0 lc) ∧ V.cell? ⟨b, 9, none⟩ = some (.bool false)) (first | (exact ten_cells (L2.out.1.1.drew.row L2.out.1.2)) | (exact ten_cells (L2.out.1.1.row L2.out.1.2)) | (exact ten_cells (L5.out.1.row L5.out.2)) | (exact ten_cells (L6.out.1.row L6.out.2)) | assumption)
      (first
        | (go_at_call 15; refine (lv_stat L2.out.1.1.drew (by have := L2.out.2; omega) _).mono ?_; rw [HFH.out, HA.out.1, HA.out.2.1, HA.out.2.2.1, HA.out.2.2.2.1, HA.out.2.2.2.2]; rintro e W5 ⟨na2, la2, nc2, lc2, rw2, rfl, hL, hsub⟩; have L5 := Lib.hid (And.intro hL (hsub _ L2.out.1.2)); clear hL hsub)
        | (go_at_call 17; refine (same_answer AE 0 ⟨#[]⟩ AK AS AL AP [] [] na2 na la2 la nc2 nc lc2 lc _ (by simp) (by simp) (.inl rfl) (.inl rfl) (.inl rfl) (.inl rfl)).mono ?_; rintro e W6 ⟨rfl, hb⟩; have L6 := Lib.hid (And.intro (L5.out.1.under hb) L5.out.2); clear hb))
    have B := Lib.hid L6.out.1.below
    have LN := Lib.hid (And.intro L6.out L2.out.2)
    clear L5 L6 L2 hadd HFH
    try clear W4
    by_cases c7 : bts name = []
    · obtain ⟨t5, t6⟩ := txt_yes c7
      clear c7
      go_wp2_with fail
      refine (lives22 _).mono ?_
      rintro e W9 ⟨rfl, hb⟩
      have B9 := Lib.hid (B.out.trans (hb.mono B.out.size))
      clear hb
      go_wp2_with fail
      go_ret
      exact ⟨rfl, B9.out⟩
    obtain ⟨t5, t6⟩ := txt_no c7
    have HX := Lib.hid c7
    clear c7
    go_wp2_with fail
    refine (parts22 name _ (by have := HS.out.2; omega)).mono ?_
    rintro e W8 ⟨rfl, rfl⟩
    by_cases c8 : (0 : Int) < (slashes (bts name) : Int)
    · go_wp2_with fail
      refine (lives22 _).mono ?_
      rintro e W9 ⟨rfl, hb⟩
      have B9 := Lib.hid (B.out.trans (hb.mono B.out.size))
      clear hb
      go_wp2_with fail
      go_ret
      exact ⟨rfl, B9.out⟩
    have HX2 := Lib.hid (show slashes (bts name) = 0 by omega)
    have hadd : ∀ w : World, (Op.stringOp .add ⟨#[47]⟩ name).run Tryz.prog w = .ok (.string (⟨#[47]⟩ ++ name)) w := fun w => run_string_add_sum w _ _ (by have := HS.out.2; have e : (⟨#[47]⟩ : ByteArray).size = 1 := rfl; rw [e]; omega)
    have HDO := Lib.hid (lv_do2 LN.out.1.1 (by have := LN.out.2; omega) ⟨12, ⟨#[47]⟩ ++ name, ⟨#[]⟩, 0, 0, ⟨#[]⟩, false⟩ (show (Lit.int .i64 12).wf = true by decide))
    go_wp2_with fail
    refine HDO.out.mono ?_
    clear HDO
    rintro e W7 ⟨na3, la3, nn3, nc3, ln3, lc3, k3, s3, l3, p3, rw3, rfl, hL, hsub⟩
    have L7 := Lib.hid (And.intro (show Lv w MB (N + 1 + 1 + 1) W7 m rw3 from hL) (And.intro (hsub _ LN.out.1.2) LN.out.2))
    clear hL hsub LN B
    have B := Lib.hid L7.out.1.below
    obtain ⟨E, hE⟩ : ∃ E, E = (listP m ⟨12, ⟨#[47]⟩ ++ name, ⟨#[]⟩, 0, 0, ⟨#[]⟩, false⟩).e := ⟨_, rfl⟩
    have hE2 : (doP m ⟨12, ⟨#[47]⟩ ++ name, ⟨#[]⟩, 0, 0, ⟨#[]⟩, false⟩).1.e = E := hE.symm
    rw [hE2]
    have HE := Lib.hid hE
    clear hE hE2
    generalize (doP m ⟨12, ⟨#[47]⟩ ++ name, ⟨#[]⟩, 0, 0, ⟨#[]⟩, false⟩).1.n = En at *
    generalize (doP m ⟨12, ⟨#[47]⟩ ++ name, ⟨#[]⟩, 0, 0, ⟨#[]⟩, false⟩).1.d = Ed at *
    have hfd := fun w => field_e w E En (tx Ed) na3 la3 nn3 nc3 ln3 lc3 k3 s3 l3 p3 false
    by_cases c9 : E = 0
    rotate_left
    · have q0 : (E == 0) = false := by simpa using c9
      have q1 : decide (E = 0) = false := by simpa using c9
      have q2 : (E != 0) = true := by simpa using c9
      go_wp2_with fail
      refine (lives22 _).mono ?_
      rintro e W9 ⟨rfl, hb⟩
      have B9 := Lib.hid (B.out.trans (hb.mono B.out.size))
      clear hb
      go_wp2_with fail
      go_ret
      exact ⟨rfl, B9.out⟩
    subst c9
    have hls : (findP m (47 :: bts name)).2 = 0 ∧ (m.get (findP m (47 :: bts name)).1).kind = 2 := by
      have h := HE.out
      unfold listP at h
      have e1 : bts (⟨#[47]⟩ ++ name) = 47 :: bts name := by simp [bts]
      simp only [e1] at h
      by_cases q1 : (findP m (47 :: bts name)).2 = 0
      · rw [if_neg (by simpa using q1)] at h
        by_cases q2 : (m.get (findP m (47 :: bts name)).1).kind = 2
        · exact ⟨q1, q2⟩
        · rw [if_pos q2] at h; simp [failA] at h
      · rw [if_pos q1] at h
        exact absurd h.symm q1
    have HF : findP m (bts (⟨#[47]⟩ ++ name ++ ⟨#[47, 46, 46]⟩ ++ path)) = findP m (bts path) := by
      have e1 : bts (⟨#[47]⟩ ++ name ++ ⟨#[47, 46, 46]⟩ ++ path) = 47 :: (bts name ++ 47 :: ([46, 46] ++ 47 :: r)) := by
        have : bts (⟨#[47]⟩ ++ name ++ ⟨#[47, 46, 46]⟩ ++ path) = [47] ++ bts name ++ [47, 46, 46] ++ bts path := by simp [bts]
        rw [this, HR.out.1]; simp
      have hl := bts_length path
      have hl2 := bts_length name
      have hsl := HS6.out
      rw [HR.out.1] at hl hsl
      have hsr : slashes (47 :: r) = slashes r + 1 := by simp [slashes]
      have h47 : (47 : UInt8) ∉ bts name := by
        intro hmem
        have h0 := HX2.out
        unfold slashes at h0
        rw [List.countP_eq_zero] at h0
        exact h0 _ hmem (by simp)
      rw [e1, HR.out.1]
      exact find_back L7.out.1.inv h47 (by have := HS.out.2; omega) hls.1 hls.2 HX.out HR.out.2 (by simp at hl; have := HS.out.1; omega) (by omega)
    have HFH := Lib.hid HF
    have hadd2 : ∀ w : World, (Op.stringOp .add (⟨#[47]⟩ ++ name) ⟨#[47, 46, 46]⟩).run Tryz.prog w = .ok (.string (⟨#[47]⟩ ++ name ++ ⟨#[47, 46, 46]⟩)) w := fun w => run_string_add_sum w _ _ (by have := HS.out.2; have e : (⟨#[47]⟩ : ByteArray).size = 1 := rfl; have e2 : (⟨#[47, 46, 46]⟩ : ByteArray).size = 3 := rfl; rw [ByteArray.size_append, e, e2]; omega)
    have hadd3 : ∀ w : World, (Op.stringOp .add (⟨#[47]⟩ ++ name ++ ⟨#[47, 46, 46]⟩) path).run Tryz.prog w = .ok (.string (⟨#[47]⟩ ++ name ++ ⟨#[47, 46, 46]⟩ ++ path)) w := fun w => run_string_add_sum w _ _ (by have := HS.out.2; have := HS.out.1; have e : (⟨#[47]⟩ : ByteArray).size = 1 := rfl; have e2 : (⟨#[47, 46, 46]⟩ : ByteArray).size = 3 := rfl; rw [ByteArray.size_append, ByteArray.size_append, e, e2]; omega)
    clear HF hls HE HX HX2 B
    go_upto_region 11 with fail
    go_region_held3 (fun V => V.cell? ⟨b, 0, none⟩ = some (.int .i64 AE) ∧ V.cell? ⟨b, 1, none⟩ = some (.int .i64 0) ∧ V.cell? ⟨b, 2, none⟩ = some (.string ⟨#[]⟩) ∧ V.cell? ⟨b, 3, none⟩ = some (.slice na 0 nc) ∧ V.cell? ⟨b, 4, none⟩ = some (.int .i64 AK) ∧ V.cell? ⟨b, 5, none⟩ = some (.int .i64 AS) ∧ V.cell? ⟨b, 6, none⟩ = some (.int .i64 AL) ∧ V.cell? ⟨b, 7, none⟩ = some (.bool AP) ∧ V.cell? ⟨b, 8, none⟩ = some (.slice la 0 lc) ∧ V.cell? ⟨b, 9, none⟩ = some (.bool false)) (first | (exact ten_cells (L7.out.1.drew.row L7.out.2.1)) | (exact ten_cells (L7.out.1.row L7.out.2.1)) | (exact ten_cells (L10.out.1.row L10.out.2)) | (exact ten_cells (L11.out.1.row L11.out.2)) | (exact ten_cells (L12.out.1.row L12.out.2)) | assumption)
      (first
        | (go_at_call 15; refine (lv_stat L7.out.1.drew (by have := L7.out.2.2; omega) _).mono ?_; rw [HFH.out, HA.out.1, HA.out.2.1, HA.out.2.2.1, HA.out.2.2.2.1, HA.out.2.2.2.2]; rintro e W10 ⟨na2, la2, nc2, lc2, rw4, rfl, hL, hsub⟩; have L10 := Lib.hid (And.intro hL (hsub _ L7.out.2.1)); clear hL hsub)
        | (go_at_call 17; refine (same_answer AE 0 ⟨#[]⟩ AK AS AL AP [] [] na2 na la2 la nc2 nc lc2 lc _ (by simp) (by simp) (.inl rfl) (.inl rfl) (.inl rfl) (.inl rfl)).mono ?_; rintro e W11 ⟨rfl, hb⟩; have L11 := Lib.hid (And.intro (L10.out.1.under hb) L10.out.2); clear hb)
        | (go_at_call 13; refine (lives22 _).mono ?_; rintro e W12 ⟨rfl, hb⟩; have L12 := Lib.hid (And.intro (L11.out.1.under hb) L11.out.2); clear hb))
    go_wp2_with fail
    go_ret
    exact ⟨rfl, L12.out.1.below⟩

/-! ### the frame (printed by mklaw.py) -/

set_option maxRecDepth 100000 in
theorem lifted_modelPaths (os : Os) (started : os.Started) (H : Type) (enc : TypeId × Value → H) :
    ReturnsInHanded {} Tryz.checked os 4 .any (fun w args => (Rows.modelPathsSpec.pre enc Tryz.prog Tryz.f4 Rows.modelPathsRow.domain false w args ∧ laidMetH Tryz.prog Rows.modelPathsRow.laid w) ∧ sizedMet enc Tryz.prog Tryz.f4 (OpenSpec.ofChange Rows.modelPathsSpec) false w args) (Rows.modelPathsSpec.post enc Tryz.prog Tryz.f4 false true false false) := by
  refine law_step_laid (C := Tryz.checked) (tb := 4) (by kernel_rfl) (by kernel_rfl) started (by kernel_rfl) Tryz.func4 rfl Tryz.underlying4 rfl ?_ ?_
    (ChangeSpec.witness_shaped (enc := enc) (C := Tryz.checked) (os := os) (X := fun w _ => laidMetH Tryz.prog Rows.modelPathsRow.laid w) false (World.laidAll Tryz.prog os Rows.modelPathsRow.laid) #[.slice none 0 0, .string ByteArray.empty, .string ByteArray.empty] 8 (World.laidAll_os _ _ _)
      (World.shaped_of_ZipB (by kernel_rfl) (by kernel_rfl)) (by kernel_rfl) (by kernel_rfl) (by kernel_rfl)
      (by rw [MakeChecks.laidMetH_plain _ _ _ (by kernel_rfl)]; exact laidMet_laidAll _ (by kernel_rfl) (by kernel_rfl))) ?_
  · intro ds hl
    match ds, hl with
    | [d0, d1, d2], _ => rfl
  · intro t ht
    rw [show Tryz.f4.params.toList = [22, 9, 9] from by rw [Tryz.params4]] at ht
    simp only [List.mem_cons, List.not_mem_nil, or_false] at ht
    rcases ht with rfl | rfl | rfl
    · exact ⟨by kernel_rfl, of_decide_eq_true (by kernel_rfl)⟩
    · exact ⟨by kernel_rfl, of_decide_eq_true (by kernel_rfl)⟩
    · exact ⟨by kernel_rfl, of_decide_eq_true (by kernel_rfl)⟩
  · intro W args hG
    rw [show Tryz.f4.params.toList = [22, 9, 9] from by rw [Tryz.params4]] at hG
    obtain ⟨v0, v1, v2, rfl, g0, g1, g2⟩ := gotAll_args3 hG
    obtain ⟨a0, cap0, l0, rfl, hle0, hcm0, hV0, hQ0⟩ := got_calls g0
    obtain ⟨a1, rfl, b1⟩ := got_string Tryz.underlying9 g1
    obtain ⟨a2, rfl, b2⟩ := got_string Tryz.underlying9 g2
    exact walk_modelPaths W a0 cap0 l0 hle0 hcm0 hV0 hQ0 a1 b1 a2 b2

theorem modelPaths_over : Rows.modelPathsRow.holds Tryz.pinned (OpenSpec.ofChange Rows.modelPathsSpec) :=
  OpenClaim.holds_of_wide 4 Tryz.f4 rfl rfl rfl rfl rfl rfl rfl ⟨rfl, rfl, rfl, rfl, rfl⟩ rfl rfl rfl rfl rfl (by kernel_rfl) Tryz.func4 (by kernel_rfl)
    (of_decide_eq_true (by kernel_rfl)) (by unfold Func.isWrapper; first | (rw [if_pos (by decide +kernel)]; kernel_rfl) | (rw [if_neg (by decide +kernel)]; exact ⟨rfl, rfl⟩))
    (fun os started H enc _ => lifted_modelPaths os started H enc)

theorem modelPaths_holds : Rows.ModelPathsCardSaid :=
  Claim7.holds_tied_plain_at .later [] [.data, .pinned] true (true, "a2858bb3599f325511a5ea6afc3cb64a7205ceb57b21c251972803503bc7930f") true modelPaths_over (fun _ h => by cases h) (by kernel_rfl) (fun _ h => by cases h) modelPaths_row_tie rfl ⟨rfl, rfl⟩ (by kernel_rfl) rfl
    (fun f fn hf hfn => by
      obtain rfl : f = 4 := Option.some.inj ((show Tryz.prog.funcNamed "glissade/glissadelaw22.ModelPaths" = some 4 by kernel_rfl).symm.trans hf) |>.symm
      obtain rfl : fn = Tryz.f4 := (Option.some.inj (Tryz.func4.symm.trans hfn)).symm
      exact ⟨by kernel_rfl, fun j t ht => by
        rw [Tryz.params4] at ht
        have hm : t ∈ [22, 9, 9] := by simpa using Array.mem_of_getElem? ht
        have hall : ([22, 9, 9].all fun u => !Tryz.prog.wantsStandIn u) = true := by kernel_rfl
        exact (show Tryz.prog.wantsStandIn t = false by simpa using List.all_eq_true.1 hall t hm)⟩)
    (by kernel_rfl)
#print axioms modelPaths_holds

end Go.Proofs.YtppdihpobokfnaaGreatDoor
