/- Walks: entries of a directory by the document: the block of a list. -/
import Derived.Test.YtlhkfpenfbakkaaDirRef
import Derived.Test.YtlhkfpenfbakkaaPlainUndo
import Derived.BigQuiet
import Derived.Deep.RegionHeld3
import Derived.Deep.RegionLaw
import Derived.Deep.QuietTactic
set_option linter.unusedVariables false
set_option linter.unusedSimpArgs false
set_option maxRecDepth 100000
namespace Go.Proofs.Ytlhkfpenfbakkaa
open Go.RowKit Go.Joins

/-- what the document has of names that stand twice -/
def rE (b : Bool) : Int := if b then 211 else 0
/-- so far: among the first k entries, or the k-th one's name among the first q -/
def rdup (l : List De) (k : Nat) : Bool := dupP (l.take k)
theorem rdup_zero (l : List De) : rdup l 0 = false := by rw [rdup, List.take_zero]; decide
theorem rdup_all (l : List De) : rdup l l.length = dupP l := by rw [rdup, List.take_length]
theorem rdup_step {l : List De} {k : Nat} {x : De} (hx : l[k]? = some x) : (rdup l k || (l.take k).any (deP x.nm)) = rdup l (k + 1) := by
  unfold rdup dupP
  rw [take_snoc hx, List.map_append, Bool.eq_iff_iff]
  simp only [Bool.or_eq_true, Bool.not_eq_true', decide_eq_false_iff_not, List.nodup_append, List.map_cons, List.map_nil]
  constructor
  · rintro (h | h)
    · exact fun h2 => h h2.1
    · intro h2
      rw [List.any_eq_true] at h
      obtain ⟨d, hd, he⟩ := h
      exact h2.2.2 d.bs (List.mem_map_of_mem hd) x.bs (by simp) (deP_iff.1 he)
  · intro h
    by_cases h1 : ((l.take k).map De.bs).Nodup
    · right
      rw [List.any_eq_true]
      by_cases h2 : ∃ d ∈ l.take k, d.bs = x.bs
      · obtain ⟨d, hd, he⟩ := h2
        exact ⟨d, hd, deP_iff.2 he⟩
      · refine absurd ⟨h1, by simp, ?_⟩ h
        intro a ha b hb
        obtain ⟨d, hd, rfl⟩ := List.mem_map.1 ha
        have hbx : b = x.bs := by simpa using hb
        subst hbx
        exact fun e => h2 ⟨d, hd, e⟩
    · exact .inl h1
theorem rany_step {l : List De} {q : Nat} {d : De} {nm : ByteArray} (hd : l[q]? = some d) : (l.take (q + 1)).any (deP nm) = ((l.take q).any (deP nm) || deP nm d) := by
  rw [take_snoc hd, List.any_append]; simp

/-- the document's text of an entry -/
theorem rent_text (d : De) (h1 : d.nameOk = true) (h2 : d.inoOk = true) : putIV (tx [0, 0, 0, 0]) 0 4 d.ino = tx (leBytes 4 d.ino.toNat) := by
  have hi := De.inoOk_iff.1 h2
  have := put_zeros [] 4 0 d.ino (by omega) hi.1 (by omega)
  simp only [List.replicate, Nat.add_zero, List.append_nil, List.nil_append, List.length_nil] at this
  exact this.2

theorem rnames_no {l : List De} {k : Nat} {x : De} (hx : l[k]? = some x) (h : nmOk (bts x.nm) = false) : packE l = 130 := by
  have : l.all De.nameOk = false := by
    rw [List.all_eq_false]
    exact ⟨x, List.mem_of_getElem? hx, by rw [De.nameOk, De.bs, h]; simp⟩
  rw [packE, this]; rfl
theorem rinos_no {l : List De} {k : Nat} {x : De} (hn : l.all De.nameOk = true) (hx : l[k]? = some x) (h : x.inoOk = false) : packE l = 2 := by
  have : l.all De.inoOk = false := by
    rw [List.all_eq_false]
    exact ⟨x, List.mem_of_getElem? hx, by rw [h]; simp⟩
  rw [packE, hn, this]; rfl
theorem all_of {l : List De} {p : De → Bool} (h : ∀ (j : Nat) (x : De), l[j]? = some x → p x = true) : l.all p = true := by
  rw [List.all_eq_true]
  intro x hx
  obtain ⟨j, hj, rfl⟩ := List.getElem_of_mem hx
  exact h j _ (List.getElem?_eq_getElem hj)

set_option maxHeartbeats 8000000 in
theorem rpack_any (a : Option Addr) (cap : Nat) (l : List De) (w : World) (hV : ValD w a l) (hl : l.length ≤ 100000) : Calls Try.prog 11 #[.slice a l.length cap] w (PackP l w) := by
  have HV := Lib.hid hV
  have hl' : (l.length : Int) ≤ 100000 := by omega
  have B0 : Below w.heap.size w w := Below.refl _ _
  clear hV
  go_enter Try.func11, Try.ntmps11
  go_wp2_with fail
  go_loopw [6] (fun jj wr => ∃ k : Nat, k ≤ l.length ∧ jj = .int .i64 k ∧ Hid (∀ j (x : De), j < k → l[j]? = some x → x.nameOk = true) ∧ Below w.heap.size w wr) (fun jj _ => l.length - (intOf jj).toNat)
  case atStart => exact ⟨0, by omega, rfl, fun j x h _ => by omega, B0⟩
  case round =>
    obtain ⟨k, hk, rfl, HA, B⟩ := hrel
    clear B0
    by_cases hlt : k < l.length
    · obtain ⟨x, hx⟩ : ∃ x, l[k]? = some x := ⟨_, List.getElem?_eq_getElem hlt⟩
      obtain ⟨P, o, rfl, hP, d0, d1⟩ := de_cells (HV.out.below B (Nat.le_refl _)) hx
      have i1 : (k : Int) < (l.length : Int) := by omega
      have i2 : (0 : Int) ≤ (k : Int) := by omega
      have HN := Lib.hid (rname_any x.nm wr)
      have HX := Lib.hid hx
      clear hx
      cases hn : nmOk (bts x.nm) with
      | false =>
        rw [hn] at HN
        have HE := Lib.hid (rnames_no HX.out hn)
        clear hn
        go_wp2_with fail
        refine HN.out.mono ?_
        rintro e w1 ⟨rfl, rfl⟩
        go_wp2_with fail
        go_ret2
        exact pack_err (by decide) HE.out B
      | true =>
        rw [hn] at HN
        have HA2 : Hid (∀ j (y : De), j < k + 1 → l[j]? = some y → y.nameOk = true) := by
          intro j y hj hy
          by_cases e : j < k
          · exact HA.out j y e hy
          · obtain rfl : j = k := by omega
            rw [HX.out] at hy
            injection hy with hy
            subst hy
            exact hn
        clear hn
        go_wp2_with fail
        refine HN.out.mono ?_
        rintro e w1 ⟨rfl, rfl⟩
        go_wp2_with fail
        go_roundw
        case rel => exact ⟨k + 1, by omega, by go_num, HA2, B⟩
        case measure => simp [intOf]; omega
    · obtain rfl : k = l.length := by omega
      have hnl : ¬ ((l.length : Int) < (l.length : Int)) := by omega
      have hna := all_of (l := l) (p := De.nameOk) (fun j x hj => HA.out j x ((List.getElem?_eq_some_iff.1 hj).1) hj)
      have HN := Lib.hid hna
      have HM := Lib.hid (many_le (List.all_eq_true.1 hna))
      have B1 := B
      clear B HA hna
      go_wp2_with fail
      go_loopw [4, 5, 7] (fun ee ss jj wr => ∃ k : Nat, k ≤ l.length ∧ jj = .int .i64 k ∧ ee = .int .i64 (rE (rdup l k)) ∧ ss = .int .i64 (many (l.take k) : Nat) ∧ Hid (∀ j (x : De), j < k → l[j]? = some x → x.inoOk = true) ∧ Below w.heap.size w wr) (fun _ _ jj _ => l.length - (intOf jj).toNat)
      case atStart => exact ⟨0, by omega, rfl, by rw [rdup_zero]; rfl, rfl, fun j x h _ => by omega, B1⟩
      case round =>
        obtain ⟨k, hk, rfl, rfl, rfl, HA, B⟩ := hrel
        clear B1
        by_cases hlt : k < l.length
        · obtain ⟨x, hx⟩ : ∃ x, l[k]? = some x := ⟨_, List.getElem?_eq_getElem hlt⟩
          obtain ⟨P, o, rfl, hP, d0, d1⟩ := de_cells (HV.out.below B (Nat.le_refl _)) hx
          have i1 : (k : Int) < (l.length : Int) := by omega
          have i2 : (0 : Int) ≤ (k : Int) := by omega
          have HX := Lib.hid hx
          clear hx
          by_cases c1 : x.ino < 0
          · have HE := Lib.hid (rinos_no HN.out HX.out (by rw [Bool.eq_false_iff]; intro h; have := De.inoOk_iff.1 h; omega))
            go_wp2_with fail
            go_ret2
            exact pack_err (by decide) HE.out B
          by_cases c2 : 4294967295 < x.ino
          · have HE := Lib.hid (rinos_no HN.out HX.out (by rw [Bool.eq_false_iff]; intro h; have := De.inoOk_iff.1 h; omega))
            go_wp2_with fail
            go_ret2
            exact pack_err (by decide) HE.out B
          have HA2 : Hid (∀ j (y : De), j < k + 1 → l[j]? = some y → y.inoOk = true) := by
            intro j y hj hy
            by_cases e : j < k
            · exact HA.out j y e hy
            · obtain rfl : j = k := by omega
              rw [HX.out] at hy
              injection hy with hy
              subst hy
              exact De.inoOk_iff.2 ⟨by omega, by omega⟩
          have hxl := ofNat_size (List.all_eq_true.1 HN.out x (List.mem_of_getElem? HX.out))
          have hmk : many (l.take k) ≤ 3700000 := by
            have := many_le (l := l.take k) (fun d hd => List.all_eq_true.1 HN.out d (List.mem_of_mem_take hd))
            have := List.length_take_le k l
            omega
          have hx32 : (x.nm.size : Int) ≤ 32 := by omega
          have hmk' : ((many (l.take k) : Nat) : Int) ≤ 3700000 := by omega
          have HMS := Lib.hid (show ((many (l.take (k + 1)) : Nat) : Int) = (many (l.take k) : Int) + 5 + (x.nm.size : Int) from by rw [take_snoc HX.out, many_append, many_one, De.sz]; omega)
          have BB := B
          clear hxl B HA hmk
          go_wp2_with fail
          clear d0 d1
          go_loopw [4, 8] (fun ee jj wq => ∃ q : Nat, q ≤ k ∧ jj = .int .i64 q ∧ ee = .int .i64 (rE (rdup l k || (l.take q).any (deP x.nm))) ∧ Below w.heap.size w wq) (fun _ jj _ => k - (intOf jj).toNat)
          case atStart => exact ⟨0, by omega, rfl, by simp, BB⟩
          case round =>
            obtain ⟨q, hq, rfl, rfl, Bq⟩ := hrel
            clear BB
            obtain ⟨_, _, e, _, f0, f1⟩ := de_cells (HV.out.below Bq (Nat.le_refl _)) HX.out
            injection e with e
            injection e with e1 e2
            subst e1 e2
            clear f1
            by_cases hqk : q < k
            · obtain ⟨d, hd⟩ : ∃ d, l[q]? = some d := ⟨_, List.getElem?_eq_getElem (show q < l.length by omega)⟩
              obtain ⟨_, _, e, _, g0, g1⟩ := de_cells (HV.out.below Bq (Nat.le_refl _)) hd
              injection e with e
              injection e with e1 e2
              subst e1 e2
              have q1 : (q : Int) < (k : Int) := by omega
              have q2 : (0 : Int) ≤ (q : Int) := by omega
              have q3 : (q : Int) < (l.length : Int) := by omega
              have HS := Lib.hid (rany_step (nm := x.nm) hd)
              have hsx := str_eq d.nm x.nm
              by_cases he : d.bs = bts x.nm
              · have HS2 := Lib.hid (show rE (rdup l k || (l.take (q + 1)).any (deP x.nm)) = 211 from by rw [HS.out, deP_iff.2 he]; simp [rE])
                have hsy : (d.nm.toList == x.nm.toList) = true := by rw [hsx]; exact decide_eq_true he
                clear hsx hd g1 HS
                go_wp2_with fail
                go_quiet (fail)
                go_wp2_with fail
                go_roundw
                case rel => exact ⟨q + 1, by omega, by go_num, by rw [HS2.out], below_drewN Bq nq⟩
                case measure => simp [intOf]; omega
              · have HS2 := Lib.hid (show (rdup l k || (l.take (q + 1)).any (deP x.nm)) = (rdup l k || (l.take q).any (deP x.nm)) from by rw [HS.out, deP, decide_eq_false he]; simp)
                have hsy : (d.nm.toList == x.nm.toList) = false := by rw [hsx]; exact decide_eq_false he
                clear hsx hd g1 HS
                go_wp2_with fail
                go_quiet (fail)
                go_wp2_with fail
                go_roundw
                case rel => exact ⟨q + 1, by omega, by go_num, by rw [HS2.out], below_drewN Bq nq⟩
                case measure => simp [intOf]; omega
            · obtain rfl : q = k := by omega
              have hnl : ¬ ((q : Int) < (q : Int)) := by omega
              have HS2 := Lib.hid (rdup_step HX.out)
              have hw1 : IntKind.i64.wrap ((many (l.take q) : Int) + 5) = (many (l.take q) : Int) + 5 := IntWalk.i64_in _ (by omega)
              have hw2 : IntKind.i64.wrap ((many (l.take q) : Int) + 5 + (x.nm.size : Int)) = (many (l.take q) : Int) + 5 + (x.nm.size : Int) := IntWalk.i64_in _ (by omega)
              go_wp2_with fail
              go_roundw
              case rel => exact ⟨q + 1, by omega, by go_num, by rw [HS2.out], by rw [HMS.out], HA2, Bq⟩
              case measure => simp [intOf]; omega
        · obtain rfl : k = l.length := by omega
          rw [rdup_all, List.take_length]
          have hnl : ¬ ((l.length : Int) < (l.length : Int)) := by omega
          have hia := all_of (l := l) (p := De.inoOk) (fun j x hj => HA.out j x ((List.getElem?_eq_some_iff.1 hj).1) hj)
          have HI := Lib.hid hia
          clear hia HA
          by_cases hdp : dupP l = true
          · rw [show rE (dupP l) = 211 from by rw [hdp]; rfl]
            have HE := Lib.hid (show packE l = 211 from by rw [packE, HN.out, HI.out, hdp]; rfl)
            clear hdp
            go_wp2_with fail
            go_ret2
            exact pack_err (by decide) HE.out B
          rw [Bool.not_eq_true] at hdp
          rw [show rE (dupP l) = 0 from by rw [hdp]; rfl]
          by_cases hm : 128 < many l
          · have hm' : (128 : Int) < (many l : Int) := by omega
            have HE := Lib.hid (show packE l = 120 from by rw [packE, HN.out, HI.out, hdp, if_pos hm]; rfl)
            clear hdp hm
            go_wp2_with fail
            go_ret2
            exact pack_err (by decide) HE.out B
          have hm' : ¬ (128 : Int) < (many l : Int) := by omega
          have HE := Lib.hid (show packE l = 0 from by rw [packE, HN.out, HI.out, hdp, if_neg hm]; rfl)
          have HM2 := Lib.hid hm
          have B7 := B
          clear hdp hm HM B
          go_wp2_with fail
          go_loopw [9, 10] (fun ss jj wr => ∃ k : Nat, k ≤ l.length ∧ jj = .int .i64 k ∧ ss = .string (tx (entsB (l.take k))) ∧ Below w.heap.size w wr) (fun _ jj _ => l.length - (intOf jj).toNat)
          case atStart => exact ⟨0, by omega, rfl, rfl, B7⟩
          case round =>
            obtain ⟨k, hk, rfl, rfl, B⟩ := hrel
            clear B7
            by_cases hlt : k < l.length
            · obtain ⟨x, hx⟩ : ∃ x, l[k]? = some x := ⟨_, List.getElem?_eq_getElem hlt⟩
              obtain ⟨P, o, rfl, hP, d0, d1⟩ := de_cells (HV.out.below B (Nat.le_refl _)) hx
              have i1 : (k : Int) < (l.length : Int) := by omega
              have i2 : (0 : Int) ≤ (k : Int) := by omega
              have hxm := List.mem_of_getElem? hx
              have hx1 := List.all_eq_true.1 HN.out x hxm
              have hx2 := List.all_eq_true.1 HI.out x hxm
              have hxi := De.inoOk_iff.1 hx2
              have hpi := rputint_any ⟨#[0, 0, 0, 0]⟩ 0 4 x.ino wr (by decide) (by omega)
              rw [show putIV ⟨#[0, 0, 0, 0]⟩ 0 4 x.ino = _ from rent_text x hx1 hx2] at hpi
              have HPI := Lib.hid hpi
              obtain ⟨q1, q2, q3⟩ := ofNat_size hx1
              have hq3 : (x.nm.size : Int) ≤ 32 := by omega
              have hw5 : IntKind.u8.wrap (x.nm.size : Int) = (x.nm.size : Int) := by
                unfold IntKind.wrap
                simp [IntKind.bits, IntKind.signed]
                omega
              have HT := Lib.hid (show tx (entsB (l.take k)) ++ tx [UInt8.ofNat x.nm.size] ++ tx (leBytes 4 x.ino.toNat) ++ x.nm = tx (entsB (l.take (k + 1))) from by
                rw [tx_app, tx_app, ← tx_eq x.nm, tx_app, take_snoc hx, entsB_append, entsB_one, entB]
                simp [De.bs, tx_list, bts])
              have hs1 : (tx (entsB (l.take k))).size ≤ 128 := by
                rw [tx_size, entsB_len]
                have := many_sub (List.take_sublist k l)
                have := HM2.out
                omega
              have hs3 : (tx (leBytes 4 x.ino.toNat)).size = 4 := by rw [tx_size, leBytes_length]
              have hs2 : (tx [UInt8.ofNat x.nm.size]).size = 1 := by rw [tx_size]; rfl
              generalize tx (entsB (l.take k)) = T1 at *
              generalize tx (leBytes 4 x.ino.toNat) = T3 at *
              have hm1 : ¬ maxLen < T1.size + (tx [UInt8.ofNat x.nm.size]).size := by rw [hs2]; unfold maxLen; omega
              have hm2 : ¬ maxLen < (T1 ++ tx [UInt8.ofNat x.nm.size]).size + T3.size := by rw [ByteArray.size_append, hs2, hs3]; unfold maxLen; omega
              have hm3 : ¬ maxLen < (T1 ++ tx [UInt8.ofNat x.nm.size] ++ T3).size + x.nm.size := by rw [ByteArray.size_append, ByteArray.size_append, hs2, hs3]; unfold maxLen; omega
              have HQ := Lib.hid q1
              clear hx hxm hx1 hx2 hxi hpi q1 q2 q3 hs1 hs2 hs3
              generalize putIOk ⟨#[0, 0, 0, 0]⟩ 0 4 x.ino = ok at *
              go_wp2_with fail
              refine HPI.out.mono ?_
              rintro e w1 ⟨rfl, hb1⟩
              have B1 := below_chain B hb1 B.size
              have e0 : w1.cell? ⟨P, o + k * 2, none⟩ = some (.string x.nm) := by rw [hb1.cell (p := ⟨P, o + k * 2, none⟩) hP]; exact d0
              have hP1 : P < w1.heap.size := by have := hb1.size; omega
              clear d0 d1 hb1 HPI B
              go_wp2_with fail
              have hcv : (convert 43 9 (.slice (some ⟨w1.heap.size, 0, none⟩) 1 1)).run Try.prog (w1.alloc (.cells #[.int .u8 x.nm.size] 5)).drew = .ok (.string (tx [UInt8.ofNat x.nm.size])) (w1.alloc (.cells #[.int .u8 x.nm.size] 5)).drew := by
                refine conv_string _ _ _ 5 w1.heap.size 1 1 [UInt8.ofNat x.nm.size] Try.underlying43 Try.underlying5 Try.underlying9 ?_ rfl
                have := (rowAt_alloc w1 #[.int .u8 x.nm.size] 5).drew
                have e : bcells [UInt8.ofNat x.nm.size] = [.int .u8 x.nm.size] := by
                  simp only [bcells, List.map_cons, List.map_nil, HQ.out]
                rw [e]
                exact this
              have B2 := (B1.alloc B1.size (.cells #[.int .u8 x.nm.size] 5)).drew
              have hm4 : ¬ maxLen < T1.size + (tx [UInt8.ofNat x.nm.size]).size + T3.size := by rw [ByteArray.size_append] at hm2; exact hm2
              have hm5 : ¬ maxLen < T1.size + (tx [UInt8.ofNat x.nm.size]).size + T3.size + x.nm.size := by rw [ByteArray.size_append, ByteArray.size_append] at hm3; exact hm3
              generalize tx [UInt8.ofNat x.nm.size] = T2 at *
              unfold maxLen at hm1 hm4 hm5
              clear hm2 hm3
              go_region_law (first | fail)
              all_goals
                go_wp2_with fail
                go_roundw
                case rel => exact ⟨k + 1, by omega, by go_num, by rw [← HT.out], B2⟩
                case measure => simp [intOf]; omega
            · obtain rfl : k = l.length := by omega
              rw [List.take_length]
              have hnl : ¬ ((l.length : Int) < (l.length : Int)) := by omega
              have hT : (tx (entsB l)).size = many l := by rw [tx_size, entsB_len]
              have HP := Lib.hid (show packB l = tx (entsB l) ++ tx (List.replicate (128 - many l) 0) from by rw [packB, if_pos HE.out, tx_app])
              have hm2 := HM2.out
              generalize tx (entsB l) = T at *
              obtain ⟨n, hn⟩ : ∃ n : Nat, n = 128 - many l := ⟨_, rfl⟩
              rw [← hn] at HP
              have hn2 : (128 : Int) - (T.size : Int) = (n : Int) := by omega
              have hn3 : n ≤ 128 := by omega
              obtain ⟨i0, hi, hz0, hz1, hz2⟩ := info_parts info_u8d
              obtain ⟨W0, hmk, hbm, hrm⟩ := make_bytes (P := Try.prog) wr 43 5 i0 Try.underlying43 hi hz0 hz1 hz2 n (by omega)
              have hcv : (convert 43 9 (.slice (some ⟨wr.heap.size, 0, none⟩) n n)).run Try.prog W0 = .ok (.string (tx (List.replicate n 0))) W0 :=
                conv_string _ _ _ 5 wr.heap.size n n (List.replicate n 0) Try.underlying43 Try.underlying5 Try.underlying9 hrm (by simp)
              rw [← hn2] at hmk
              have hZ : (tx (List.replicate n 0)).size = n := by rw [tx_size]; simp
              have hmx : ¬ maxLen < T.size + (tx (List.replicate n 0)).size := by rw [hZ]; unfold maxLen; omega
              have hw : IntKind.i64.wrap (128 - (T.size : Int)) = 128 - (T.size : Int) := IntWalk.i64_in _ (by omega)
              have B9 := below_chain B hbm B.size
              generalize tx (List.replicate n 0) = Z at *
              clear hT hm2 hn hn2 hn3 hi hz0 hz1 hz2 hbm hrm hZ B
              go_wp2_with fail
              go_ret2
              exact ⟨by rw [HP.out, HE.out]; rfl, B9⟩

end Go.Proofs.Ytlhkfpenfbakkaa
