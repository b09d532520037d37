/- Walks: names.Join; the names' laws' own functions: SameTexts, great, alive. -/
import Derived.Test.YtlhkfpenfbakkaaDoorNamRef2
set_option linter.unusedVariables false
set_option linter.unusedSimpArgs false
set_option maxRecDepth 100000
namespace Go.Proofs.YtlhkfpenfbakkaaDoor
open Go.RowKit Go.Joins

theorem flat_size (l : List ByteArray) : (flat (l.map bts)).length = l.length + (l.map ByteArray.size).sum := by
  induction l with
  | nil => rfl
  | cons x l ih =>
    rw [List.map_cons, flat, List.length_cons, List.length_append, ih, bts_length, List.length_cons, List.map_cons, List.sum_cons]
    omega

/-- strings.Join of parts -/
theorem sjoin_any (a : Option Addr) (cap : Nat) (l : List ByteArray) (w : World) (hV : ValS w a (strs l)) (hc : l.length ≤ cap) (hf : (flat (l.map bts)).length ≤ 1000000) :
    Calls Tryd.prog 23 #[.slice a l.length cap, .string ⟨#[47]⟩] w fun e w' => e = .returned (.string (tx ((pathS (l.map bts)).drop 1))) ∧ Below w.heap.size w w' := by
  by_cases h0 : l = []
  · subst h0
    refine (Any.strings_Join_none Tryd.lays156 Tryd.Builder_Extra_156 a cap ⟨#[47]⟩ w).mono ?_
    rintro e w1 ⟨he, hw⟩
    refine ⟨?_, by rw [hw]; exact Below.refl _ _⟩
    rw [he]; rfl
  · rcases hV with hv | ⟨B, o, rfl, hB, h2⟩
    · exfalso
      have := congrArg List.length hv
      rw [strs_len] at this
      exact h0 (List.length_eq_zero_iff.1 (by simpa using this))
    · have hp : pathS (l.map bts) = flat (l.map bts) := by rw [pathS, if_neg (by simpa using h0)]
      have hj : 47 :: Lib.join (l.map bts) [47] = flat (l.map bts) := flat_join (by simpa using h0)
      have hjl := congrArg List.length hj
      rw [List.length_cons] at hjl
      have hn := flat_size l
      refine (Tryd.strings_Join B o cap l ⟨#[47]⟩ w (fun j x hx => h2 j _ (strs_get hx)) hB (by omega) hc ?_).mono ?_
      · show (Lib.join (l.map bts) [47]).length ≤ _
        omega
      · rintro e w1 ⟨he, hw⟩
        refine ⟨?_, hw⟩
        rw [he, hp, ← hj]; rfl

set_option maxHeartbeats 1000000 in
theorem cjoin_any (a : Option Addr) (cap : Nat) (l : List ByteArray) (w : World) (hV : ValS w a (strs l)) (hc : l.length ≤ cap) (hf : (flat (l.map bts)).length ≤ 1000000) : Calls Tryd.prog 16 #[.slice a l.length cap] w (JoinR l w) := by
  have HV := Lib.hid hV
  have HJ := Lib.hid (sjoin_any a cap l w hV hc hf)
  have hl0 : l.length ≤ 1000000 := by have := flat_size l; omega
  have hl' : (l.length : Int) ≤ 1000000 := by omega
  have hps : pathS (l.map bts) = 47 :: (pathS (l.map bts)).drop 1 := by
    rw [pathS]
    split
    · rfl
    · cases l with
      | nil => rename_i h; exact absurd rfl h
      | cons x l => rw [List.map_cons, flat]; rfl
  have HT : Hid (⟨#[47]⟩ ++ tx ((pathS (l.map bts)).drop 1) = tx (pathS (l.map bts))) := by
    show _ = _
    apply bts_ext
    rw [tx_bts]
    rw (occs := .pos [2]) [hps]
    simp [bts, tx]
  have hpl : (pathS (l.map bts)).length ≤ 1000000 := by
    rw [pathS]
    split
    · simp
    · exact hf
  have hsz := tx_size ((pathS (l.map bts)).drop 1)
  rw [List.length_drop] at hsz
  have hsz2 := congrArg List.length hps
  rw [List.length_cons, List.length_drop] at hsz2
  have hcat : ((⟨#[47]⟩ : ByteArray) ++ tx ((pathS (l.map bts)).drop 1)).size = (pathS (l.map bts)).length := by rw [HT.out, tx_size]
  have HCO := Lib.hid (fun W (hb : Below w.heap.size w W) => contains_odd a cap l W (HV.out.below hb (Nat.le_refl _)) (by omega))
  generalize tx ((pathS (l.map bts)).drop 1) = T at *
  have hm1 : ¬ maxLen < (⟨#[47]⟩ : ByteArray).size + T.size := by
    have : (⟨#[47]⟩ : ByteArray).size = 1 := rfl
    rw [this]; unfold maxLen; omega
  have hm2 : ¬ maxLen < 1 + T.size := by unfold maxLen; omega
  have hts : ((⟨#[47]⟩ ++ T : ByteArray).size : Int) = ((pathS (l.map bts)).length : Int) := by rw [hcat]
  clear hV hc hf hps hpl hsz hsz2 hcat
  cases ho : (l.all fun s => nmOk (bts s)) with
  | false =>
    rw [ho] at HCO
    have HE := Lib.hid (joinP_no ho)
    clear ho
    go_enter Tryd.func16, Tryd.ntmps16
    go_wp2_with fail
    refine HJ.out.mono ?_
    rintro e w1 ⟨rfl, hb1⟩
    have HC1 := Lib.hid (HCO.out w1 hb1)
    clear HJ HCO
    go_wp2_with fail
    refine HC1.out.mono ?_
    rintro e w2 ⟨rfl, hb2⟩
    have B2 := below_chain hb1 hb2 hb1.size
    go_wp2_with fail
    go_ret2
    exact join_bad HE.out B2
  | true =>
    rw [ho] at HCO
    have HN := Lib.hid ho
    clear ho
    by_cases h16 : 16 < l.length
    · have h16' : (16 : Int) < (l.length : Int) := by omega
      have HE := Lib.hid (joinP_many HN.out (.inl h16))
      clear h16
      go_enter Tryd.func16, Tryd.ntmps16
      go_wp2_with fail
      refine HJ.out.mono ?_
      rintro e w1 ⟨rfl, hb1⟩
      have HC1 := Lib.hid (HCO.out w1 hb1)
      clear HJ HCO
      go_wp2_with fail
      refine HC1.out.mono ?_
      rintro e w2 ⟨rfl, hb2⟩
      have B2 := below_chain hb1 hb2 hb1.size
      go_wp2_with fail
      go_ret2
      exact join_bad HE.out B2
    have h16' : ¬ (16 : Int) < (l.length : Int) := by omega
    obtain ⟨U, hU⟩ : ∃ U, U = (⟨#[47]⟩ : ByteArray) ++ T := ⟨_, rfl⟩
    have HU := Lib.hid hU
    by_cases h256 : 256 < (pathS (l.map bts)).length
    · have hu : (256 : Int) < (((⟨#[47]⟩ : ByteArray) ++ T).size : Int) := by omega
      have hu1 : (256 : Int) < 1 + (T.size : Int) := by
        have : ((⟨#[47]⟩ : ByteArray) ++ T).size = 1 + T.size := by rw [ByteArray.size_append]; rfl
        omega
      have HE := Lib.hid (joinP_many HN.out (.inr h256))
      clear h16 h256 hU
      go_enter Tryd.func16, Tryd.ntmps16
      go_wp2_with fail
      refine HJ.out.mono ?_
      rintro e w1 ⟨rfl, hb1⟩
      have HC1 := Lib.hid (HCO.out w1 hb1)
      clear HJ HCO
      go_wp2_with fail
      refine HC1.out.mono ?_
      rintro e w2 ⟨rfl, hb2⟩
      have B2 := below_chain hb1 hb2 hb1.size
      go_wp2_with fail
      go_ret2
      exact join_bad HE.out B2
    · have hu : ¬ (256 : Int) < (((⟨#[47]⟩ : ByteArray) ++ T).size : Int) := by omega
      have hu1 : ¬ (256 : Int) < 1 + (T.size : Int) := by
        have : ((⟨#[47]⟩ : ByteArray) ++ T).size = 1 + T.size := by rw [ByteArray.size_append]; rfl
        omega
      have HE := Lib.hid (joinP_yes HN.out h16 h256)
      clear h16 h256 hU
      go_enter Tryd.func16, Tryd.ntmps16
      go_wp2_with fail
      refine HJ.out.mono ?_
      rintro e w1 ⟨rfl, hb1⟩
      have HC1 := Lib.hid (HCO.out w1 hb1)
      clear HJ HCO
      go_wp2_with fail
      refine HC1.out.mono ?_
      rintro e w2 ⟨rfl, hb2⟩
      have B2 := below_chain hb1 hb2 hb1.size
      go_wp2_with fail
      go_ret2
      refine ⟨?_, B2⟩
      rw [HE.out, ← HT.out]; rfl

set_option maxHeartbeats 1000000 in
theorem same13 (a b : Option Addr) (ca cb : Nat) (l : List ByteArray) (w : World) (hl : l.length ≤ 100000) (hA : ValS w a (strs l)) (hB : ValS w b (strs l)) :
    Calls Tryd.prog 13 #[.slice a l.length ca, .slice b l.length cb] w fun e w' => e = .returned (.bool true) ∧ Below w.heap.size w w' := by
  have HA := Lib.hid hA
  have HB := Lib.hid hB
  have hl' : (l.length : Int) ≤ 100000 := by omega
  clear hA hB
  go_enter Tryd.func13, Tryd.ntmps13
  go_wp2_with fail
  go_loopw [5] (fun jj wr => ∃ k : Nat, k ≤ l.length ∧ jj = .int .i64 k ∧ Below w.heap.size w wr) (fun jj _ => l.length - (intOf jj).toNat)
  case atStart => exact ⟨0, by omega, rfl, Below.refl _ _⟩
  case round =>
    obtain ⟨k, hk, rfl, B⟩ := hrel
    by_cases hlt : k < l.length
    · obtain ⟨x, hx⟩ : ∃ x, l[k]? = some x := ⟨_, List.getElem?_eq_getElem hlt⟩
      obtain ⟨P, o, rfl, hP, c0⟩ := str_cell (HA.out.below B (Nat.le_refl _)) hx
      obtain ⟨Q, p, rfl, hQ, d0⟩ := str_cell (HB.out.below B (Nat.le_refl _)) hx
      have i1 : (k : Int) < (l.length : Int) := by omega
      have i2 : (0 : Int) ≤ (k : Int) := by omega
      clear hx
      go_wp2_with fail
      go_quiet (fail)
      have B2 := below_drewN B nq
      clear c0 d0
      go_wp2_with fail
      go_roundw
      case rel => exact ⟨k + 1, by omega, by go_num, B2⟩
      case measure => simp [intOf]; omega
    · obtain rfl : k = l.length := by omega
      have hnl : ¬ ((l.length : Int) < (l.length : Int)) := by omega
      go_wp2_with fail
      go_ret
      exact ⟨rfl, B⟩

/-- what great tells -/
def GreatN (l : List ByteArray) (e : Ending) : Prop := ∃ b, e = .returned (.bool b) ∧ (b = false → l.length ≤ 200 ∧ (flat (l.map bts)).length ≤ 5000)
theorem flat_next {l : List ByteArray} {k : Nat} {x : ByteArray} (hx : l[k]? = some x) : (flat ((l.take (k + 1)).map bts)).length = (flat ((l.take k).map bts)).length + 1 + x.size := by
  rw [flat_take hx, List.length_append, List.length_cons, bts_length]; omega

set_option maxHeartbeats 1000000 in
theorem great13 (a : Option Addr) (ca : Nat) (l : List ByteArray) (w : World) (hl : l.length ≤ maxLen) (hA : ValS w a (strs l)) (hs : ∀ x ∈ l, x.size ≤ maxLen) :
    Calls Tryd.prog 15 #[.slice a l.length ca] w fun e w' => GreatN l e ∧ w = w' := by
  have HA := Lib.hid hA
  have HS := Lib.hid hs
  have hl' : (l.length : Int) ≤ 9223372036854775807 := by unfold maxLen at hl; omega
  clear hA hs
  go_enter Tryd.func15, Tryd.ntmps15
  go_wp2_with fail
  go_loopw [3, 4] (fun nn jj wr => ∃ (k : Nat) (z : Int), k ≤ l.length ∧ jj = .int .i64 k ∧ nn = .int .i64 z ∧ 0 ≤ z ∧ z ≤ 5000 ∧ Hid (((flat ((l.take k).map bts)).length : Int) = z) ∧ wr = w) (fun _ jj _ => l.length - (intOf jj).toNat)
  case atStart => exact ⟨0, 0, by omega, rfl, rfl, by omega, by omega, by rfl, rfl⟩
  case round =>
    obtain ⟨k, z, hk, rfl, rfl, z0, z1, HZ, rfl⟩ := hrel
    by_cases hlt : k < l.length
    · obtain ⟨x, hx⟩ : ∃ x, l[k]? = some x := ⟨_, List.getElem?_eq_getElem hlt⟩
      obtain ⟨P, o, rfl, hP, c0⟩ := str_cell HA.out hx
      have i1 : (k : Int) < (l.length : Int) := by omega
      have i2 : (0 : Int) ≤ (k : Int) := by omega
      have hsx := HS.out x (List.mem_of_getElem? hx)
      have hs1 : (x.size : Int) ≤ 9223372036854775807 := by unfold maxLen at hsx; omega
      have HN := Lib.hid (flat_next hx)
      clear hx hsx
      by_cases hm : (x.size : Int) ≤ 1000000
      · have hmin : min (x.size : Int) 1000000 = (x.size : Int) := by omega
        by_cases hg : 5000 < z + 1 + (x.size : Int)
        · go_wp2_with fail
          go_ret
          exact ⟨⟨true, rfl, fun h => by cases h⟩, rfl⟩
        · have HZ2 : Hid (((flat ((l.take (k + 1)).map bts)).length : Int) = z + 1 + (x.size : Int)) := by
            show _ = _
            rw [HN.out]
            have := HZ.out
            omega
          go_wp2_with fail
          go_roundw
          case rel => exact ⟨k + 1, z + 1 + (x.size : Int), by omega, by go_num, rfl, by omega, by omega, HZ2, trivial⟩
          case measure => simp [intOf]; omega
      · have hmin : min (x.size : Int) 1000000 = 1000000 := by omega
        have hg : 5000 < z + 1 + (1000000 : Int) := by omega
        go_wp2_with fail
        go_ret
        exact ⟨⟨true, rfl, fun h => by cases h⟩, rfl⟩
    · obtain rfl : k = l.length := by omega
      have hnl : ¬ ((l.length : Int) < (l.length : Int)) := by omega
      have HF : Hid ((flat (l.map bts)).length ≤ 5000) := by
        show _ ≤ _
        have := HZ.out
        rw [List.take_length] at this
        omega
      by_cases h100 : l.length ≤ 200
      · have q : ¬ (200 : Int) < (l.length : Int) := by omega
        go_wp2_with fail
        go_ret
        exact ⟨⟨_, rfl, fun _ => ⟨h100, HF.out⟩⟩, rfl⟩
      · have q : (200 : Int) < (l.length : Int) := by omega
        go_wp2_with fail
        go_ret
        exact ⟨⟨_, rfl, fun h => by simp at h⟩, rfl⟩

end Go.Proofs.YtlhkfpenfbakkaaDoor
