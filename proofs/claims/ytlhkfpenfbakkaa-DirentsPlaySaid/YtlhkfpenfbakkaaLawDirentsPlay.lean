/- For every input the law glissadelaw12.DirentsPlay returns true; at most 60 acts, each name of at most 1000 bytes; else it returns true at once. -/
import Derived.BigQuiet
import Derived.Deep.QuietTactic
import Derived.Deep.RegionHeld3
import Derived.Deep.Cut
import Derived.Deep.CutRange
import Derived.Deep.RegionLaw
import Derived.Test.YtlhkfpenfbakkaaPlainPlay
import Derived.Test.YtlhkfpenfbakkaaGotDa
import Derived.Test.YtlhkfpenfbakkaaFrame
set_option linter.unusedVariables false
set_option linter.unusedSimpArgs false
set_option maxRecDepth 100000
namespace Go.Proofs.Ytlhkfpenfbakkaa
open Go.RowKit Go.Joins

theorem packB_small2 (l : List De) : (packB l).size ≤ 128 := by
  by_cases h : packE l = 0
  · rw [packB_size h]; omega
  · rw [packB, if_neg h]; show 0 ≤ 128; omega
theorem own_keep {w w' : World} {base : Nat} {e : TypeId} {size : Nat} {v : Value} {n : Nat} {xs : List Value} (h : w.ownsRow base e size v n xs) (hb : Below w.heap.size w w') : w'.ownsRow base e size v n xs := by
  refine ⟨h.1, ?_⟩
  rcases h.2 with hn | ⟨g, cap, cur, rfl, hbb, hgg, rest⟩
  · exact .inl hn
  · refine .inr ⟨g, cap, cur, rfl, hbb, ?_, rest⟩
    rw [hb.block g (Array.getElem?_eq_some_iff.1 hgg).1]; exact hgg
theorem row_pieceD {w : World} {g : Nat} {xs : List Value} (h : RowAt w g xs) (o m : Nat) : ∀ j u, ((xs.drop o).take m)[j]? = some u → w.cell? ⟨g, o + j, none⟩ = some u := by
  intro j u hu
  have hj := (List.getElem?_eq_some_iff.1 hu).1
  simp at hj
  rw [h.cell _ (by omega)]
  rw [List.getElem?_take_of_lt (by omega), List.getElem?_drop] at hu
  exact hu
theorem de_take (l : List De) (k : Nat) : (l.flatMap De.cells).take (k * 2) = (l.take k).flatMap De.cells := by
  induction l generalizing k with
  | nil => simp
  | cons d r ih =>
    cases k with
    | zero => simp
    | succ k =>
      rw [List.flatMap_cons, List.take_succ_cons, List.flatMap_cons, ← ih k, List.take_append, show (De.cells d).length = 2 from rfl, List.take_of_length_le (by rw [show (De.cells d).length = 2 from rfl]; omega)]
      congr 2; omega
theorem de_drop (l : List De) (k : Nat) : (l.flatMap De.cells).drop (k * 2) = (l.drop k).flatMap De.cells := by
  induction l generalizing k with
  | nil => simp
  | cons d r ih =>
    cases k with
    | zero => simp
    | succ k =>
      rw [List.flatMap_cons, List.drop_succ_cons, ← ih k, List.drop_append, show (De.cells d).length = 2 from rfl, List.drop_of_length_le (by rw [show (De.cells d).length = 2 from rfl]; omega), List.nil_append]
      congr 1; omega
theorem de_one (l : List De) : ∀ u ∈ l.flatMap De.cells, u.oneCell' = true := by
  intro u hu
  rw [List.mem_flatMap] at hu
  obtain ⟨d, _, hu⟩ := hu
  simp only [De.cells, List.mem_cons, List.not_mem_nil, or_false] at hu
  rcases hu with rfl | rfl <;> rfl
theorem own_lessD {w : World} {base base' : Nat} {e : TypeId} {size : Nat} {v : Value} {n : Nat} {xs : List Value} (h : w.ownsRow base' e size v n xs) (hb : base ≤ base') : w.ownsRow base e size v n xs := by
  refine ⟨h.1, ?_⟩
  rcases h.2 with h0 | ⟨g, cap, cur, hv, hg, r⟩
  · exact .inl h0
  · exact .inr ⟨g, cap, cur, hv, by omega, r⟩
/-- what stands while the list is laid anew -/
def CloD (w W : World) (g : Nat) (L : List De) : Prop := RowAt W g (L.flatMap De.cells) ∧ Below w.heap.size w W
theorem CloD.grown {w W0 W W' : World} {g : Nat} {L : List De} {row : Option Nat} (h : CloD w W g L) (hg : W.grownBy W' row) (hr : ∀ k, row = some k → W0.heap.size ≤ k) (hgg : g < W0.heap.size) (h0 : w.heap.size ≤ W0.heap.size) (h1 : W0.heap.size ≤ W.heap.size) : CloD w W' g L :=
  ⟨h.1.grown hg (fun e => by have := hr g e; omega), grown_below4 h.2 hg (fun k hk => by have := hr k hk; omega) (by omega)⟩
/-- what stands in a round: the entry's own memory; the list's; all below -/
structure PlG (w W : World) (X : Nat) (nm : ByteArray) (ino : Int) (a1 : Option Addr) (c1 : Nat) (L : List De) : Prop where
  row : RowAt W X [.string nm, .int .i64 ino]
  own : W.ownsRow w.heap.size 25 2 (.slice a1 L.length c1) L.length (L.flatMap De.cells)
  below : Below w.heap.size w W
  lim : w.heap.size ≤ X
theorem PlG.keep {w W W' : World} {X : Nat} {nm : ByteArray} {ino : Int} {a1 : Option Addr} {c1 : Nat} {L : List De} (h : PlG w W X nm ino a1 c1 L) (hb : Below W.heap.size W W') : PlG w W' X nm ino a1 c1 L :=
  ⟨h.row.below hb h.row.lt, own_keep h.own hb, below_chain h.below hb h.below.size, h.lim⟩
theorem PlG.vals {w W : World} {X : Nat} {nm : ByteArray} {ino : Int} {a1 : Option Addr} {c1 : Nat} {L : List De} (h : PlG w W X nm ino a1 c1 L) : ValD W a1 L := by
  obtain ⟨a', cap', hv, hnew, _, _⟩ := own_newd h.own
  injection hv with hv1 _ hv3
  subst hv1 hv3
  exact hnew.vals

set_option maxHeartbeats 32000000 in
theorem walk_direntsPlay (w : World) (a : Option Addr) (cap : Nat) (l : List Da) (hV : Val3 w a (l.map Da.v)) (hs : ∀ z ∈ l, z.d.nm.size ≤ maxLen ∧ i64B z.d.ino) :
    Calls Try.prog 7 #[.slice a l.length cap] w fun e w' => e = .returned (.bool true) ∧ Below w.heap.size w w' := by
  by_cases hc : 60 < l.length
  · have hc' : (60 : Int) < (l.length : Int) := by omega
    clear hV hs
    go_enter Try.func7, Try.ntmps7
    go_wp2_with fail
    go_ret
    exact ⟨rfl, Below.refl _ _⟩
  have hc' : ¬ (60 : Int) < (l.length : Int) := by omega
  have HV := Lib.hid hV
  obtain ⟨i0, hi, hz0, hz1, hz2⟩ := info_parts info_u8d
  obtain ⟨W0, hmk, hbm, hrm⟩ := make_bytes (P := Try.prog) w 43 5 i0 Try.underlying43 hi hz0 hz1 hz2 128 (by omega)
  have hmk : (Instr.makeSlice 43 (.int .i64 128) (.int .i64 128)).run Try.prog w = .ok (.slice (some ⟨w.heap.size, 0, none⟩) 128 128) W0 := hmk
  obtain ⟨Z, hZ⟩ : ∃ Z, Z = zerosB 128 := ⟨_, rfl⟩
  have hcv : (convert 43 9 (.slice (some ⟨w.heap.size, 0, none⟩) 128 128)).run Try.prog W0 = .ok (.string Z) W0 := by
    rw [hZ]
    exact conv_string _ _ _ 5 w.heap.size 128 128 (List.replicate 128 0) Try.underlying43 Try.underlying5 Try.underlying9 hrm (by simp)
  have HZ : Hid (Z = packB []) := by show Z = _; rw [hZ]; decide +kernel
  obtain ⟨i1, hi1, hy0, hy1, hy2⟩ := info_parts info_de
  have HI := Lib.hid (And.intro hi1 (And.intro hy0 (And.intro hy1 hy2)))
  clear hi hz0 hz1 hz2 hZ hrm hV hi1 hy0 hy1 hy2
  go_enter Try.func7, Try.ntmps7
  go_wp2_with fail
  clear hmk hcv
  go_loopw [3, 4, 5, 6] (fun ss hh uu jj wr => ∃ (k : Nat) (L : List De) (a1 : Option Addr) (c1 : Nat), k ≤ l.length ∧ ss = .string (packB L) ∧ hh = .slice a1 L.length c1 ∧ uu = .int .i64 (many L : Nat) ∧ jj = .int .i64 k ∧ Hid (PlOk L ∧ wr.ownsRow w.heap.size 25 2 (.slice a1 L.length c1) L.length (L.flatMap De.cells) ∧ Below w.heap.size w wr)) (fun _ _ _ jj _ => l.length - (intOf jj).toNat)
  case atStart => exact ⟨0, [], none, 0, by omega, by rw [HZ.out], rfl, rfl, rfl, pl_nil, World.ownsRow_nil _ _ _ _, hbm⟩
  case round =>
    obtain ⟨k, L, a1, c1, hk, rfl, rfl, rfl, rfl, HG⟩ := hrel
    clear hbm HZ
    by_cases hlt : k < l.length
    · obtain ⟨x, hx⟩ : ∃ x, l[k]? = some x := ⟨_, List.getElem?_eq_getElem hlt⟩
      obtain ⟨P, o, rfl, hP, x0, x1, x2⟩ := da_cells (HV.out.below HG.out.2.2 (Nat.le_refl _)) hx
      obtain ⟨hxn, hxi⟩ := hs x (List.mem_of_getElem? hx)
      have h1 : (k : Int) < (l.length : Int) := by omega
      have h0 : (0 : Int) ≤ (k : Int) := by omega
      clear hx
      obtain ⟨⟨nm, ino⟩, out⟩ := x
      simp only at x0 x1 x2 hxn hxi
      by_cases hn : 1000 < nm.size
      · have hn' : (1000 : Int) < (nm.size : Int) := by omega
        have BE := below_chain HG.out.2.2 ((Below.refl wr.heap.size wr).alloc (Nat.le_refl _) (.cells #[.string nm, .int .i64 ino] 25)) HG.out.2.2.size
        clear HG
        go_wp2_with fail
        go_ret
        exact ⟨rfl, BE⟩
      have hn' : ¬ (1000 : Int) < (nm.size : Int) := by omega
      have hbx : Below wr.heap.size wr (wr.alloc (.cells #[.string nm, .int .i64 ino] 25)) := (Below.refl _ _).alloc (Nat.le_refl _) _
      obtain ⟨X, hX⟩ : ∃ X, X = wr.heap.size := ⟨_, rfl⟩
      obtain ⟨Wx, hWx⟩ : ∃ Wx, Wx = wr.alloc (.cells #[.string nm, .int .i64 ino] 25) := ⟨_, rfl⟩
      have HP := HG.out.1
      have HG1 : Hid (PlG w Wx X nm ino a1 c1 L) := by
        show PlG _ _ _ _ _ _ _ _
        rw [hWx, hX]
        exact ⟨rowAt_alloc wr #[.string nm, .int .i64 ino] 25, HG.out.2.1.alloc _, below_chain HG.out.2.2 hbx HG.out.2.2.size, HG.out.2.2.size⟩
      have x2' : Wx.cell? ⟨P, o + k * 3 + 2, none⟩ = some (.bool out) := by rw [hWx, hbx.cell (p := ⟨P, o + k * 3 + 2, none⟩) hP]; exact x2
      have hPx : P < X := by rw [hX]; exact hP
      have hXx : X < Wx.heap.size := by rw [hX, hWx]; simp
      have HPl := Lib.hid HP
      have hL : (L.length : Int) ≤ 128 := by have := HP.len; omega
      go_wp2_with fail
      rw [← hX, ← hWx]
      clear HG hbx hWx hX x0 x1 x2 hxn hxi hP HP
      have hat0 := atP_zero L nm
      go_loopw [8, 9] (fun aa jj wq => ∃ q : Nat, q ≤ L.length ∧ aa = .int .i64 (atP L nm q) ∧ jj = .int .i64 q ∧ Hid (PlG w wq X nm ino a1 c1 L ∧ Below Wx.heap.size Wx wq)) (fun _ jj _ => L.length - (intOf jj).toNat)
      case atStart => exact ⟨0, by omega, by rw [hat0], rfl, HG1.out, Below.refl _ _⟩
      case round =>
        obtain ⟨q, hq, rfl, rfl, HQ⟩ := hrel
        clear hat0
        by_cases hql : q < L.length
        · obtain ⟨d, hd⟩ : ∃ d, L[q]? = some d := ⟨_, List.getElem?_eq_getElem hql⟩
          obtain ⟨PL, oL, rfl, hPL, l0, l1⟩ := de_cells HQ.out.1.vals hd
          have n0 := HQ.out.1.row.cell 0 (by simp)
          have q1 : (q : Int) < (L.length : Int) := by omega
          have q2 : (0 : Int) ≤ (q : Int) := by omega
          have hsx := str_eq d.nm nm
          by_cases he : d.bs = bts nm
          · have hA := Lib.hid (HPl.out.at_yes hd (deP_iff.2 he))
            have hsy : (d.nm.toList == nm.toList) = true := by rw [hsx]; exact decide_eq_true he
            clear hsx hd
            go_wp2_with fail
            go_quiet (fail)
            go_wp2_with fail
            go_roundw
            case rel => exact ⟨q + 1, by omega, by rw [hA.out], by go_num, HQ.out.1.keep (below_drewN (Below.refl _ _) nq), below_chain HQ.out.2 (below_drewN (Below.refl _ _) nq) HQ.out.2.size⟩
            case measure => simp [intOf]; omega
          · have hA := Lib.hid (at_no (nm := nm) hd (by rw [deP]; exact decide_eq_false he))
            have hsy : (d.nm.toList == nm.toList) = false := by rw [hsx]; exact decide_eq_false he
            clear hsx hd
            go_wp2_with fail
            go_quiet (fail)
            go_wp2_with fail
            go_roundw
            case rel => exact ⟨q + 1, by omega, by rw [hA.out], by go_num, HQ.out.1.keep (below_drewN (Below.refl _ _) nq), below_chain HQ.out.2 (below_drewN (Below.refl _ _) nq) HQ.out.2.size⟩
            case measure => simp [intOf]; omega
        · obtain rfl : q = L.length := by omega
          have hnl : ¬ ((L.length : Int) < (L.length : Int)) := by omega
          rw [at_all]
          have x2q : wr.cell? ⟨P, o + k * 3 + 2, none⟩ = some (.bool out) := by rw [HQ.out.2.cell (p := ⟨P, o + k * 3 + 2, none⟩) (by show P < _; omega)]; exact x2'
          have n0 := HQ.out.1.row.cell 0 (by simp)
          have n1 := HQ.out.1.row.cell 1 (by simp)
          have HG2 := Lib.hid HQ.out.1
          have fl := HQ.out.2.size
          clear HQ HG1 x2' hPx hXx
          obtain ⟨aT, haT⟩ : ∃ aT, aT = fIdx (placeP L nm) := ⟨_, rfl⟩
          rw [← haT]
          have HaT := Lib.hid haT
          clear haT
          go_upto_if 58 with (fail)
          go_cut [3, 4, 5, 10, 11, 12, 13] from 24 to 204 (fun ss hh uu _ _ _ _ wc => ∃ (L2 : List De) (a2 : Option Addr) (c2 : Nat), ss = .string (packB L2) ∧ hh = .slice a2 L2.length c2 ∧ uu = .int .i64 (many L2 : Nat) ∧ Hid (PlOk L2 ∧ wc.ownsRow w.heap.size 25 2 (.slice a2 L2.length c2) L2.length (L2.flatMap De.cells) ∧ Below w.heap.size w wc))
          case rest =>
            clear HG2 n0 n1 x2q fl HPl hL
            obtain ⟨L2, a2, c2, rfl, rfl, rfl, HCut⟩ := hcut
            have BX := HCut.out.2.2
            have HO2 := Lib.hid HCut.out.2.1
            have HP2 := Lib.hid HCut.out.1
            clear HCut
            as_aux_lemma =>
              have HL2 := HP2.out.len
              have HM2 := HP2.out.fit
              have HPa := Lib.hid (fun W => by have := parse_any (packB L2) W (by have := packB_small2 L2; omega); unfold ParseP at this; rw [parse_pack HP2.out] at this; exact this)
              have HRo := Lib.hid (fun W => by have := room_any (packB L2) W (by have := packB_small2 L2; omega); rw [HP2.out.room] at this; exact this)
              have HFi := Lib.hid (fun (W : World) (kk : Nat) (d : De) (hd : L2[kk]? = some d) => by have := find_any (packB L2) d.nm W (by have := packB_small2 L2; omega); rw [HP2.out.find hd] at this; exact this)
              obtain ⟨S2, hS2⟩ : ∃ S2, S2 = packB L2 := ⟨_, rfl⟩
              obtain ⟨u2, hu2⟩ : ∃ u2 : Int, u2 = (many L2 : Nat) := ⟨_, rfl⟩
              rw [← hS2] at HPa HRo HFi
              rw [← hu2] at HRo
              rw [← hS2, ← hu2]
              have HSU := Lib.hid (And.intro hS2 hu2)
              have hu3 : 0 ≤ u2 ∧ u2 ≤ 128 := by omega
              obtain ⟨hu3a, hu3b⟩ := hu3
              have hu4 : ¬ (128 < u2) := by omega
              have hu5 : IntKind.i64.wrap (128 - u2) = 128 - u2 := IntWalk.i64_in _ (by omega)
              have hl2 : (L2.length : Int) ≤ 128 := by omega
              clear hS2 hu2
              go_wp2_with fail
              refine (HPa.out _).mono ?_
              rintro e w5 ⟨h | ⟨h, _⟩, hb5⟩
              case inr => cases h
              obtain ⟨l3, a3, cap3, h31, rfl, h33, h34⟩ := h
              injection h31 with h31
              subst h31
              have B5 := below_chain BX hb5 BX.size
              have HO5 := own_keep HO2.out hb5
              obtain ⟨a', cap', hv, hnew, _, _⟩ := own_newd h34
              injection hv with hv1 _ hv3
              subst hv1 hv3
              obtain ⟨a'', cap'', hv, hnew2, _, hcap2⟩ := own_newd HO5
              injection hv with hv1 _ hv3
              subst hv1 hv3
              have HSa := Lib.hid (same12 a3 a2 cap3 c2 L2 w5 (by omega) hnew.vals hnew2.vals)
              have HO5 := Lib.hid HO5
              clear hb5 HPa h33 h34 hnew hnew2 HO2 BX
              go_wp2_with fail
              refine HSa.out.mono ?_
              rintro e w6 ⟨rfl, hb6⟩
              have B6 := below_chain B5 hb6 B5.size
              have HO6 := Lib.hid (own_keep HO5.out hb6)
              clear hb6 HSa HO5 B5
              go_wp2_with fail
              refine (HRo.out _).mono ?_
              rintro e w7 ⟨rfl, hb7⟩
              have B7 := below_chain B6 hb7 B6.size
              have HO7 := Lib.hid (own_keep HO6.out hb7)
              clear hb7 HRo HO6 B6
              go_wp2_with fail
              go_loopw [16] (fun jj wq => ∃ q : Nat, q ≤ L2.length ∧ jj = .int .i64 q ∧ Hid (Below w.heap.size w wq ∧ wq.ownsRow w.heap.size 25 2 (.slice a2 L2.length c2) L2.length (L2.flatMap De.cells))) (fun jj _ => L2.length - (intOf jj).toNat)
              case atStart => exact ⟨0, by omega, rfl, B7, HO7.out⟩
              case round =>
                obtain ⟨q, hq, rfl, HQ⟩ := hrel
                clear HO7 B7
                by_cases hql : q < L2.length
                · obtain ⟨d, hd⟩ : ∃ d, L2[q]? = some d := ⟨_, List.getElem?_eq_getElem hql⟩
                  have hvv := HQ.out.2
                  obtain ⟨a', cap', hv, hnew, _, _⟩ := own_newd hvv
                  injection hv with hv1 _ hv3
                  subst hv1 hv3
                  obtain ⟨PL, oL, rfl, hPL, l0, l1⟩ := de_cells hnew.vals hd
                  have HF := Lib.hid (HFi.out wr q d hd)
                  have q1 : (q : Int) < (L2.length : Int) := by omega
                  have q2 : (0 : Int) ≤ (q : Int) := by omega
                  clear hd hnew hvv
                  go_wp2_with fail
                  refine HF.out.mono ?_
                  rintro e w8 ⟨rfl, hb8⟩
                  have l2 : w8.cell? ⟨PL, oL + q * 2 + 1, none⟩ = some (.int .i64 d.ino) := by rw [hb8.cell (p := ⟨PL, oL + q * 2 + 1, none⟩) hPL]; exact l1
                  have HQ8 : Hid (Below w.heap.size w w8 ∧ w8.ownsRow w.heap.size 25 2 (.slice (some ⟨PL, oL, none⟩) L2.length c2) L2.length (L2.flatMap De.cells)) := ⟨below_chain HQ.out.1 hb8 HQ.out.1.size, own_keep HQ.out.2 hb8⟩
                  clear l0 l1 hPL HQ hb8 HF
                  go_wp2_with fail
                  go_roundw
                  case rel => exact ⟨q + 1, by omega, by go_num, HQ8⟩
                  case measure => simp [intOf]; omega
                · obtain rfl : q = L2.length := by omega
                  have hnl : ¬ ((L2.length : Int) < (L2.length : Int)) := by omega
                  go_wp2_with fail
                  go_roundw
                  case rel => exact ⟨k + 1, L2, _, c2, by omega, by rw [HSU.out.1], rfl, by rw [HSU.out.2], by go_num, HP2.out, HQ.out.2, HQ.out.1⟩
                  case measure => simp [intOf]; omega
          case first =>
            cases out with
            | true =>
              have HRm := Lib.hid (fun W => remove_any (packB L) nm W (by have := packB_small2 L; omega))
              rw [HPl.out.remove nm] at HRm
              cases hp : placeP L nm with
              | none =>
                as_aux_lemma =>
                  rw [hp] at HRm
                  have haT : aT = -1 := by rw [HaT.out, hp]; rfl
                  clear HaT
                  subst haT
                  have HU := Lib.hid (show (packB L).toList = (packB L).toList from rfl)
                  go_wp2_with fail
                  refine (HRm.out _).mono ?_
                  rintro e w3 ⟨rfl, hb3⟩
                  have HG3 := Lib.hid (HG2.out.keep hb3)
                  clear hb3 HG2 HRm n0 n1 x2q fl
                  go_wp2_with fail
                  go_meet
                  exact ⟨L, a1, c1, rfl, rfl, rfl, HPl.out, HG3.out.own, HG3.out.below⟩
              | some i =>
                focus
                  rw [hp] at HRm
                  have haT : aT = (i : Int) := by rw [HaT.out, hp]; rfl
                  clear HaT
                  subst haT
                  obtain ⟨hil, _, hbs⟩ := find_place hp
                  obtain ⟨d, hd⟩ : ∃ d, L[i]? = some d := ⟨_, List.getElem?_eq_getElem hil⟩
                  have hdn : d.nm.size = nm.size := by
                    obtain ⟨_, e⟩ := List.getElem?_eq_some_iff.1 hd
                    rw [e] at hbs
                    rw [← bts_length, ← bts_length]
                    exact congrArg List.length hbs
                  have hom := out_many hd
                  rw [hdn] at hom
                  have HP2 := Lib.hid (HPl.out.out i)
                  have hmm := HPl.out.fit
                  have hl1 := HPl.out.len
                  have j1 : (0 : Int) ≤ (i : Int) := by omega
                  clear hd hbs hdn hp
                  go_wp2_with fail
                  refine (HRm.out _).mono ?_
                  rintro e w3 ⟨rfl, hb3⟩
                  have HG3 := Lib.hid (HG2.out.keep hb3)
                  have n3 := HG3.out.row.cell 0 (by simp)
                  obtain ⟨g, cap9, hv, hg, hcap, hrow⟩ := own_full4 HG3.out.own (by omega)
                  injection hv with hv1 _ hv3
                  subst hv1 hv3
                  have HW := Lib.hid (And.intro hrow (And.intro HG3.out.below (And.intro hg hcap)))
                  have hgl : g < w3.heap.size := hrow.lt
                  have hbl : w.heap.size ≤ w3.heap.size := HG3.out.below.size
                  have hu1 : IntKind.i64.wrap ((many L : Int) - 5) = (many L : Int) - 5 := IntWalk.i64_in _ (by omega)
                  have hu2 : IntKind.i64.wrap ((many L : Int) - 5 - (nm.size : Int)) = (many L : Int) - 5 - (nm.size : Int) := IntWalk.i64_in _ (by omega)
                  have j2 : (i : Int) < (L.length : Int) := by omega
                  have j3 : (i : Int) ≤ (c1 : Int) := by omega
                  have j4 : (i : Int) + 1 ≤ (L.length : Int) := by omega
                  have j5 : (0 : Int) ≤ (i : Int) + 1 := by omega
                  have j6 : (L.length : Int) ≤ (c1 : Int) := by omega
                  have j7 : IntKind.i64.wrap ((i : Int) + 1) = (i : Int) + 1 := IntWalk.i64_in _ (by omega)
                  have HS1 : Hid (CloD w (w3.alloc (.cells #[] 25)).drew g L) := ⟨(hrow.alloc _).drew, (HG3.out.below.alloc hbl _).drew⟩
                  have HM : Hid ((w3.alloc (.cells #[] 25)).drew.ownsRow w3.heap.size 25 2 (.slice (some ⟨w3.heap.size, 0, none⟩) 0 0) 0 []) := ⟨rfl, .inr ⟨w3.heap.size, 0, #[], rfl, Nat.le_refl _, by show (w3.heap.push _)[w3.heap.size]? = _; simp, Nat.le_refl _, Nat.zero_le _, rfl, rfl⟩⟩
                  obtain ⟨T1, hT1⟩ : ∃ T1, T1 = (L.take i).flatMap De.cells := ⟨_, rfl⟩
                  obtain ⟨T3, hT3⟩ : ∃ T3, T3 = (L.drop (i + 1)).flatMap De.cells := ⟨_, rfl⟩
                  have HT1 : Hid (T1.length = i * 2 ∧ (∀ W, CloD w W g L → ∀ j u, T1[j]? = some u → W.cell? ((⟨g, 0, none⟩ : Addr).add j) = some u) ∧ ∀ u ∈ T1, u.oneCell' = true) := by
                    refine ⟨by rw [hT1, decells_len]; simp; omega, fun W hW j u hu => ?_, by rw [hT1]; exact de_one _⟩
                    rw [addr_add]
                    refine row_pieceD hW.1 0 (i * 2) j u ?_
                    rw [List.drop_zero, de_take, ← hT1]; exact hu
                  have HE : Hid (T1 ++ T3 = (L.take i ++ L.drop (i + 1)).flatMap De.cells ∧ (L.take i ++ L.drop (i + 1)).length = i + (L.length - (i + 1))) := by
                    refine ⟨by rw [hT1, hT3]; simp, by simp; omega⟩
                  have hlt : Hid (i + (L.length - (i + 1)) ≤ 1000 ∧ i < L.length) := ⟨by omega, hil⟩
                  clear hb3 HG2 HRm n0 n1 x2q fl HPl hg hcap
                  by_cases hcz : c1 = i + 1
                  · have hz1 : L.length = i + 1 := by omega
                    have HT3 : Hid (T3.length = (L.length - (i + 1)) * 2 ∧ (∀ W, CloD w W g L → ∀ j u, T3[j]? = some u → W.cell? ((⟨g, 0, none⟩ : Addr).add j) = some u) ∧ ∀ u ∈ T3, u.oneCell' = true) := by
                      refine ⟨by rw [hT3, decells_len]; simp, fun W hW j u hu => ?_, by rw [hT3]; exact de_one _⟩
                      rw [hT3, List.drop_of_length_le (by omega)] at hu
                      simp at hu
                    clear hT1 hT3 hz1
                    have j8 : (i : Int) ≤ (i : Int) + 1 := by omega
                    have j9 : (L.length : Int) ≤ (i : Int) + 1 := by omega
                    clear j3 j6
                    subst hcz
                    go_wp2_with fail
                    clear n3
                    go_region_law (first | (refine step_append_own rfl (.tmp 86) (.tmp 89) 22 rfl w3.heap.size 25 i1 (.agg #[.string ByteArray.empty, .int .i64 0]) 2 24 Try.underlying22 HI.out.1 HI.out.2.1 HI.out.2.2.1 HI.out.2.2.2 rfl (by decide) (.slice (some ⟨w3.heap.size, 0, none⟩) 0 0) 0 [] (by simp [Act.eval, Act.put]) HM.out ⟨g, 0, none⟩ i (i + 1) T1 (by simp [Act.eval, Act.put]) HT1.out.1 (HT1.out.2.1 _ HS1.out) HT1.out.2.2 (by have := hlt.out.1; unfold maxLen; omega) (by have := hlt.out.1; omega) (by simp) ?_; intro v5 w5 own5 grow5; have HG5 := Lib.hid grow5; have HO5 := Lib.hid own5; have HS5 := Lib.hid (HS1.out.grown grow5 (fun j hj => by simp [Value.ownBlock] at hj; omega) hgl hbl (by simp)); clear own5 grow5) | (refine step_append_own rfl (.tmp 90) (.tmp 94) 22 rfl w3.heap.size 25 i1 (.agg #[.string ByteArray.empty, .int .i64 0]) 2 24 Try.underlying22 HI.out.1 HI.out.2.1 HI.out.2.2.1 HI.out.2.2.2 rfl (by decide) v5 (0 + i) ([] ++ T1) (by simp [Act.eval, Act.put]) HO5.out ⟨g, 0, none⟩ (L.length - (i + 1)) 0 T3 (by simp [Act.eval, Act.put]) HT3.out.1 (HT3.out.2.1 w5 HS5.out) HT3.out.2.2 (by have := hlt.out.1; unfold maxLen; omega) (by have := hlt.out.1; omega) (by have := HG5.out.size; simp at this; omega) ?_; intro v6 w6 own6 grow6; obtain ⟨a6, cap6, rfl⟩ := own_form own6; have HO6 := Lib.hid own6; have HS6 := Lib.hid (HS5.out.grown grow6 (fun j hj => (HO5.out.lt j hj).1) hgl hbl (by have := HG5.out.size; simp at this; omega)); clear own6 grow6) | fail)
                    all_goals
                      have HO2 : Hid (w6.ownsRow w.heap.size 25 2 (.slice a6 (i + (L.length - (i + 1))) cap6) (L.take i ++ L.drop (i + 1)).length ((L.take i ++ L.drop (i + 1)).flatMap De.cells)) := by
                        have := HO6.out
                        rw [List.nil_append, Nat.zero_add, HE.out.1] at this
                        show World.ownsRow _ _ _ _ _ _ _
                        rw [HE.out.2]
                        exact own_lessD this hbl
                      have hlen : Hid (((L.take i ++ L.drop (i + 1)).length : Int) = (i + (L.length - (i + 1)))) := by show _ = _; rw [HE.out.2]; omega
                      have B6 := HS6.out.2
                      clear HS6 HO6 HS5 HO5 HG5
                      go_wp2_with fail
                      go_meet
                      exact ⟨L.take i ++ L.drop (i + 1), a6, cap6, rfl, by rw [HE.out.2], by rw [hom], HP2.out, by rw [HE.out.2] at *; exact HO2.out, B6⟩
                  · have HT3 : Hid (T3.length = (L.length - (i + 1)) * 2 ∧ (∀ W, CloD w W g L → ∀ j u, T3[j]? = some u → W.cell? ((⟨g, (i + 1) * 2, none⟩ : Addr).add j) = some u) ∧ ∀ u ∈ T3, u.oneCell' = true) := by
                      refine ⟨by rw [hT3, decells_len]; simp, fun W hW j u hu => ?_, by rw [hT3]; exact de_one _⟩
                      rw [addr_add]
                      refine row_pieceD hW.1 ((i + 1) * 2) ((L.length - (i + 1)) * 2) j u ?_
                      rw [de_drop, ← hT3, List.take_of_length_le (by rw [hT3, decells_len]; simp)]; exact hu
                    clear hT1 hT3
                    have hcz2 := hcz
                    go_wp2_with fail
                    clear n3
                    go_region_law (first | (refine step_append_own rfl (.tmp 86) (.tmp 89) 22 rfl w3.heap.size 25 i1 (.agg #[.string ByteArray.empty, .int .i64 0]) 2 24 Try.underlying22 HI.out.1 HI.out.2.1 HI.out.2.2.1 HI.out.2.2.2 rfl (by decide) (.slice (some ⟨w3.heap.size, 0, none⟩) 0 0) 0 [] (by simp [Act.eval, Act.put]) HM.out ⟨g, 0, none⟩ i c1 T1 (by simp [Act.eval, Act.put]) HT1.out.1 (HT1.out.2.1 _ HS1.out) HT1.out.2.2 (by have := hlt.out.1; unfold maxLen; omega) (by have := hlt.out.1; omega) (by simp) ?_; intro v5 w5 own5 grow5; have HG5 := Lib.hid grow5; have HO5 := Lib.hid own5; have HS5 := Lib.hid (HS1.out.grown grow5 (fun j hj => by simp [Value.ownBlock] at hj; omega) hgl hbl (by simp)); clear own5 grow5) | (refine step_append_own rfl (.tmp 90) (.tmp 94) 22 rfl w3.heap.size 25 i1 (.agg #[.string ByteArray.empty, .int .i64 0]) 2 24 Try.underlying22 HI.out.1 HI.out.2.1 HI.out.2.2.1 HI.out.2.2.2 rfl (by decide) v5 (0 + i) ([] ++ T1) (by simp [Act.eval, Act.put]) HO5.out ⟨g, (i + 1) * 2, none⟩ (L.length - (i + 1)) (c1 - (i + 1)) T3 (by simp [Act.eval, Act.put]) HT3.out.1 (HT3.out.2.1 w5 HS5.out) HT3.out.2.2 (by have := hlt.out.1; unfold maxLen; omega) (by have := hlt.out.1; omega) (by have := HG5.out.size; simp at this; omega) ?_; intro v6 w6 own6 grow6; obtain ⟨a6, cap6, rfl⟩ := own_form own6; have HO6 := Lib.hid own6; have HS6 := Lib.hid (HS5.out.grown grow6 (fun j hj => (HO5.out.lt j hj).1) hgl hbl (by have := HG5.out.size; simp at this; omega)); clear own6 grow6) | fail)
                    all_goals
                      have HO2 : Hid (w6.ownsRow w.heap.size 25 2 (.slice a6 (i + (L.length - (i + 1))) cap6) (L.take i ++ L.drop (i + 1)).length ((L.take i ++ L.drop (i + 1)).flatMap De.cells)) := by
                        have := HO6.out
                        rw [List.nil_append, Nat.zero_add, HE.out.1] at this
                        show World.ownsRow _ _ _ _ _ _ _
                        rw [HE.out.2]
                        exact own_lessD this hbl
                      have hlen : Hid (((L.take i ++ L.drop (i + 1)).length : Int) = (i + (L.length - (i + 1)))) := by show _ = _; rw [HE.out.2]; omega
                      have B6 := HS6.out.2
                      clear HS6 HO6 HS5 HO5 HG5
                      go_wp2_with fail
                      go_meet
                      exact ⟨L.take i ++ L.drop (i + 1), a6, cap6, rfl, by rw [HE.out.2], by rw [hom], HP2.out, by rw [HE.out.2] at *; exact HO2.out, B6⟩
            | false =>
              have HIn := Lib.hid (fun W => insert_any (packB L) ⟨nm, ino⟩ W (by have := packB_small2 L; omega))
              rw [agg_cells, HPl.out.insert] at HIn
              by_cases hpe : packE (L ++ [⟨nm, ino⟩]) = 0
              · as_aux_lemma  =>
                  obtain ⟨hp, hmm⟩ := HPl.out.ins_ok hpe
                  have haT : aT = -1 := by rw [HaT.out, hp]; rfl
                  clear HaT
                  subst haT
                  rw [hpe] at HIn
                  go_wp2_with fail
                  refine (HIn.out _).mono ?_
                  rintro e w3 ⟨rfl, hb3⟩
                  have HG3 := Lib.hid (HG2.out.keep hb3)
                  have n3 := HG3.out.row.cell 0 (by simp)
                  have n4 := HG3.out.row.cell 1 (by simp)
                  have fl3 := HG3.out.below.size
                  have HLt := Lib.hid (fun j hj => World.ownsRow.lt HG3.out.own j hj)
                  have HRw := Lib.hid (row_news4 (rowAt_alloc w3 #[.string nm, .int .i64 ino] 25))
                  have hm0 := HPl.out.fit
                  have hw1 : IntKind.i64.wrap ((many L : Int) + 5) = (many L : Int) + 5 := IntWalk.i64_in _ (by omega)
                  have hw2 : IntKind.i64.wrap ((many L : Int) + 5 + (nm.size : Int)) = (many L : Int) + 5 + (nm.size : Int) := IntWalk.i64_in _ (by omega)
                  clear hb3 HG2 HIn n0 n1 x2q fl
                  go_wp2_with (at_builtin; refine wpList_append_own _ rfl _ _ 22 rfl w.heap.size 25 i1 (.agg #[.string ByteArray.empty, .int .i64 0]) 2 24 Try.underlying22 HI.out.1 HI.out.2.1 HI.out.2.2.1 HI.out.2.2.2 rfl (by decide) _ L.length _ rfl (HG3.out.own.alloc _) ⟨w3.heap.size, 0, none⟩ 1 1 [.string nm, .int .i64 ino] rfl rfl HRw.out (by intro u hu; simp at hu; rcases hu with rfl | rfl <;> rfl) (by unfold maxLen; omega) (by omega) (by simp; omega) ?_)
                  intro v9 w9 hown9 hg9 _
                  obtain ⟨a2, c2, rfl⟩ := own_form hown9
                  have B9 := grown_below4 (HG3.out.below.alloc HG3.out.below.size (.cells #[.string nm, .int .i64 ino] 25)) hg9 (fun j hj => (HLt.out j hj).1) (by simp; omega)
                  have HO9 : Hid (w9.ownsRow w.heap.size 25 2 (.slice a2 (L ++ [(⟨nm, ino⟩ : De)]).length c2) (L ++ [(⟨nm, ino⟩ : De)]).length ((L ++ [(⟨nm, ino⟩ : De)]).flatMap De.cells)) := by
                    show World.ownsRow _ _ _ _ _ _ _
                    rw [List.length_append, List.flatMap_append]
                    exact hown9
                  have hlen : L.length + 1 = (L ++ [(⟨nm, ino⟩ : De)]).length := by simp
                  have hus : ((many L : Nat) : Int) + 5 + (nm.size : Int) = ((many (L ++ [(⟨nm, ino⟩ : De)]) : Nat) : Int) := by omega
                  have HP2 := Lib.hid (show PlOk (L ++ [(⟨nm, ino⟩ : De)]) from hpe)
                  rw [hlen, hus]
                  clear hown9 hg9 HRw HLt HG3 n3 n4 hw1 hw2 hmm hlen hus hpe HPl hp hm0 fl3
                  go_wp2_with fail
                  go_meet
                  exact ⟨L ++ [(⟨nm, ino⟩ : De)], a2, c2, rfl, rfl, rfl, HP2.out, HO9.out, B9⟩
              · as_aux_lemma =>
                  skip
                  have hE := HPl.out.ins_err hpe
                  rw [show packB (L ++ [⟨nm, ino⟩]) = ⟨#[]⟩ from by rw [packB, if_neg hpe]] at HIn
                  obtain ⟨pe, hp⟩ : ∃ pe, pe = packE (L ++ [⟨nm, ino⟩]) := ⟨_, rfl⟩
                  have haT := HaT.out
                  simp only at hE
                  rw [← hp, ← haT] at hE
                  rw [← hp] at HIn hpe
                  obtain ⟨hE1, hE2, hE3⟩ := hE
                  have hq0 : (pe == 0) = false := by simpa using hpe
                  have hq1 : (pe == 80) = false := by simpa using hE1
                  have hmm := HPl.out.fit
                  have hw1 : IntKind.i64.wrap (5 + (nm.size : Int)) = 5 + (nm.size : Int) := IntWalk.i64_in _ (by omega)
                  have hw2 : IntKind.i64.wrap (128 - (many L : Int)) = 128 - (many L : Int) := IntWalk.i64_in _ (by omega)
                  clear hp haT HaT hpe hE1
                  have hcase : (pe = 211 ∧ 0 ≤ aT ∧ 0 ≤ ino ∧ ino ≤ 4294967295) ∨ ((pe = 120 ∧ ¬ 5 + (nm.size : Int) ≤ 128 - (many L : Int) ∨ (pe == 120) = false) ∧ (pe == 211) = false ∧ (¬ 0 ≤ aT ∨ 0 ≤ aT ∧ ¬ 0 ≤ ino ∨ 0 ≤ aT ∧ 0 ≤ ino ∧ ¬ ino ≤ 4294967295)) := by
                    by_cases c1 : pe = 211
                    · exact .inl ⟨c1, hE2.1 c1⟩
                    · refine .inr ⟨?_, by simpa using c1, ?_⟩
                      · by_cases c2 : pe = 120
                        · exact .inl ⟨c2, hE3 c2⟩
                        · exact .inr (by simpa using c2)
                      · have hno : ¬ (0 ≤ aT ∧ 0 ≤ ino ∧ ino ≤ 4294967295) := fun h => c1 (hE2.2 h)
                        by_cases z1 : 0 ≤ aT
                        · by_cases z2 : 0 ≤ ino
                          · exact .inr (.inr ⟨z1, z2, fun z3 => hno ⟨z1, z2, z3⟩⟩)
                          · exact .inr (.inl ⟨z1, z2⟩)
                        · exact .inl z1
                  clear hE2 hE3
                  go_wp2_with fail
                  refine (HIn.out _).mono ?_
                  rintro e w3 ⟨rfl, hb3⟩
                  have HG3 := Lib.hid (HG2.out.keep hb3)
                  have n3 := HG3.out.row.cell 0 (by simp)
                  have n4 := HG3.out.row.cell 1 (by simp)
                  clear hb3 HG2 HIn n0 n1 x2q fl
                  rcases hcase with ⟨rfl, z1, z2, z3⟩ | ⟨⟨rfl, hr⟩ | hr, hr2, z1 | ⟨z1, z2⟩ | ⟨z1, z2, z3⟩⟩
                  all_goals
                    go_wp2_with fail
                    go_meet
                    exact ⟨L, a1, c1, rfl, rfl, rfl, HPl.out, HG3.out.own, HG3.out.below⟩
    · obtain rfl : k = l.length := by omega
      have hnl : ¬ ((l.length : Int) < (l.length : Int)) := by omega
      have BL := HG.out.2.2
      clear HG
      go_wp2_with fail
      refine (alive12 _).mono ?_
      rintro e w7 ⟨rfl, hb7⟩
      have B7 := below_chain BL hb7 BL.size
      go_wp2_with fail
      go_ret
      exact ⟨rfl, B7⟩

/-! ### the frame (printed by mklaw.py) -/

set_option maxRecDepth 100000 in
theorem lifted_direntsPlay (os : Os) (started : os.Started) (H : Type) (enc : TypeId × Value → H) :
    ReturnsInHanded {} Try.checked os 7 .any (Rows.direntsPlaySpec.pre6 enc Try.prog Try.f7 Rows.direntsPlayRow.domain false) (Rows.direntsPlaySpec.post enc Try.prog Try.f7 false true false false) := by
  refine law_step (C := Try.checked) (tb := 4) (by kernel_rfl) (by kernel_rfl) started (by kernel_rfl) Try.func7 rfl Try.underlying4 rfl ?_ ?_
    (ChangeSpec.witness6 (enc := enc) (C := Try.checked) false ⟨#[], #[.slice none 0 0], []⟩ 8 (by kernel_rfl) (by kernel_rfl) (by kernel_rfl) (by kernel_rfl)) ?_
  · intro ds hl
    match ds, hl with
    | [d0], _ => rfl
  · intro t ht
    rw [show Try.f7.params.toList = [42] from by rw [Try.params7]] at ht
    simp only [List.mem_cons, List.not_mem_nil, or_false] at ht
    rcases ht with rfl
    · exact ⟨by kernel_rfl, of_decide_eq_true (by kernel_rfl)⟩
  · intro W args hG
    rw [show Try.f7.params.toList = [42] from by rw [Try.params7]] at hG
    obtain ⟨v0, rfl, g0⟩ := gotAll_args1 hG
    obtain ⟨a0, cap0, l0, rfl, hV0, hs0⟩ := got_dacts g0
    exact walk_direntsPlay W a0 cap0 l0 hV0 hs0

theorem direntsPlay_over : Rows.direntsPlayRow.holds Try.pinned (OpenSpec.ofChange Rows.direntsPlaySpec) :=
  OpenClaim.holds_of_wide 7 Try.f7 rfl rfl rfl rfl rfl rfl rfl ⟨rfl, rfl, rfl, rfl, rfl⟩ rfl rfl rfl rfl rfl (by kernel_rfl) Try.func7 (by kernel_rfl)
    (of_decide_eq_true (by kernel_rfl)) (by unfold Func.isWrapper; first | (rw [if_pos (by decide +kernel)]; kernel_rfl) | (rw [if_neg (by decide +kernel)]; exact ⟨rfl, rfl⟩))
    (fun os started H enc _ => lifted_direntsPlay os started H enc)

theorem direntsPlay_holds : Rows.DirentsPlaySaid := direntsPlay_over
#print axioms direntsPlay_holds

end Go.Proofs.Ytlhkfpenfbakkaa
