/- A part of a proof. -/
import Derived.Test.YtppdihpobokfnaaGreatDoorGPlain
import Derived.Deep.RegionHeld3
import Derived.StillTailTactics
import Derived.Test.YtppdihpobokfnaaGreatDoorGNR
set_option linter.unusedVariables false
set_option linter.unusedSimpArgs false
set_option maxRecDepth 100000
namespace Go.Proofs.YtppdihpobokfnaaGreatDoor
open Go.RowKit Go.Joins
theorem mnone_row (b : Nat) (x : Bool) (w : World) (hc : w.cell? ⟨b, 0, none⟩ = some (.bool x)) : Calls Tryz.prog 35 #[.pointer (some ⟨b, 0, none⟩)] w fun e w' => e = .returned (.bool !x) ∧ w = w' := by
 go_enter Tryz.func35, Tryz.ntmps35
 go_wp2
 go_ret
 exact ⟨rfl, rfl⟩
def anV (e n : Int) (d : ByteArray) (ns : Value) (st : Stt) (ls : Value) : Value := .agg #[.int .i64 e, .int .i64 n, .string d, ns, .int .i64 st.kind, .int .i64 st.size, .int .i64 st.links, .bool st.pin, ls, .bool false]
def failV (e : Int) : Value := anV e 0 ⟨#[]⟩ (.slice none 0 0) Stt.zero (.slice none 0 0)
theorem mfailed (z : Int) (w : World) : Calls Tryz.prog 36 #[.int .i64 z] w fun e w' => e = .returned (failV z) ∧ Below w.heap.size w w' := by
 go_enter Tryz.func36, Tryz.ntmps36
 go_wp2
 exact bodyPost_ret (v := failV z) (by simp [results, Tryz.results36, go_sem, failV, anV, Stt.zero]) rfl ⟨rfl, by go_grown⟩
theorem txt_yes {s : ByteArray} {l : Bs} (h : bts s = l) : s.toList = l ∧ (s.toList == l) = true := by
 have e : s.toList = l := (Lib.toList_data s).trans h
 exact ⟨e, by simpa using e⟩
theorem txt_no {s : ByteArray} {l : Bs} (h : bts s ≠ l) : ¬ s.toList = l ∧ (s.toList == l) = false := by
 have e : ¬ s.toList = l := fun e => h ((Lib.toList_data s).symm.trans e)
 exact ⟨e, by simpa using e⟩
set_option maxHeartbeats 1000000 in
theorem mstep (R : Rp) (m : Md) (k : Nat) (d : Nd) (s : ByteArray) (w : World) (h : MdAt w R m) (hk : lookK m.nodes k = some d) (hz : k ≤ 1000000000) (hs : s.size ≤ 1000000000) :
  Calls Tryz.prog 128 #[.pointer (some ⟨R.mb, 0, none⟩), .int .i64 (k : Int), .string s] w fun e w' => e = .returned (.tuple #[.int .i64 ((stepP m k (bts s)).1 : Int), .int .i64 (stepP m k (bts s)).2]) ∧ w = w' := by
 have hn := h.nodes k d hk
 obtain ⟨m0, m1, m2, m3, m4⟩ := h.cells
 have hl := h.look hk hz
 obtain ⟨c0, c1, c2, c3, c4, c5⟩ := hn.cells
 have hg := Md.get_look hk
 generalize R.g k = g at *
 by_cases hd : d.kind = 2
 · have hq := hn.look hd hs
   rw [if_pos hd] at c4
   rw [hd] at c0
   have f0 : ¬ d.kind ≠ 2 := by rw [hd]; simp
   by_cases h1 : bts s = [46]
   · have hr := Lh (show stepP m k (bts s) = (k, 0) from by rw [stepP, hg, if_neg f0, if_pos h1])
     obtain ⟨t1, t2⟩ := txt_yes h1
     clear f0 hd h1 hg hk h hn hq
     go_enter Tryz.func128, Tryz.ntmps128
     go_wp2_with fail
     go_ret2
     exact ⟨by rw [hr.out]; rfl, rfl⟩
   · obtain ⟨t1, t2⟩ := txt_no h1
     by_cases h2 : bts s = [46, 46]
     · have hr := Lh (show stepP m k (bts s) = (d.par, 0) from by rw [stepP, hg, if_neg f0, if_neg h1, if_pos h2])
       obtain ⟨t3, t4⟩ := txt_yes h2
       clear f0 hd h1 h2 hg hk h hn hq t1
       go_enter Tryz.func128, Tryz.ntmps128
       go_wp2_with fail
       go_ret2
       exact ⟨by rw [hr.out]; rfl, rfl⟩
     · obtain ⟨t3, t4⟩ := txt_no h2
       cases hj : lookN d.names (bts s) with
       | none =>
        rw [hj] at hq
        have hr := Lh (show stepP m k (bts s) = (0, 210) from by rw [stepP, hg, if_neg f0, if_neg h1, if_neg h2, hj])
        clear f0 hd h1 h2 hg hk h hn hj
        go_enter Tryz.func128, Tryz.ntmps128
        go_wp2_with fail
        go_ret2
        exact ⟨by rw [hr.out]; rfl, rfl⟩
       | some j =>
        rw [hj] at hq
        have hr := Lh (show stepP m k (bts s) = (j, 0) from by rw [stepP, hg, if_neg f0, if_neg h1, if_neg h2, hj])
        clear f0 hd h1 h2 hg hk h hn hj
        go_enter Tryz.func128, Tryz.ntmps128
        go_wp2_with fail
        go_ret2
        exact ⟨by rw [hr.out]; rfl, rfl⟩
 · have hr := Lh (show stepP m k (bts s) = (0, 212) from by rw [stepP, hg, if_pos hd])
   have hd' : (d.kind != 2) = true := by rw [bne_iff_ne]; exact hd
   clear hg hk h hn hd
   go_enter Tryz.func128, Tryz.ntmps128
   go_wp2_with fail
   go_ret2
   exact ⟨by rw [hr.out]; rfl, rfl⟩
end Go.Proofs.YtppdihpobokfnaaGreatDoor
set_option linter.unusedVariables false
set_option linter.unusedSimpArgs false
set_option maxRecDepth 100000
namespace Go.Proofs.YtppdihpobokfnaaGreatDoor
open Go.RowKit Go.Joins
theorem map_bts_inj {l m : List ByteArray} (h : l.map bts = m.map bts) : l = m := by
 induction l generalizing m with
 | nil => cases m with
  | nil => rfl
  | cons y m => simp at h
 | cons x l ih => cases m with
  | nil => simp at h
  | cons y m =>
   rw [List.map_cons, List.map_cons] at h
   injection h with h1 h2
   rw [bts_ext h1, ih h2]
set_option maxHeartbeats 1000000 in
theorem mwalk (R : Rp) (m : Md) (a : Option Addr) (cap : Nat) (l : List ByteArray) (w : World) (h : MdAt w R m) (hG : Good m) (hV : ValS w a (strs l)) (hl : l.length ≤ 1000000) (hs : ∀ x ∈ l, x.size ≤ 1000000000) :
  Calls Tryz.prog 89 #[.pointer (some ⟨R.mb, 0, none⟩), .slice a l.length cap] w fun e w' => e = .returned (.tuple #[.int .i64 ((walkFrom m 0 (l.map bts)).1 : Int), .int .i64 (walkFrom m 0 (l.map bts)).2]) ∧ w = w' := by
 have HS := Lh (fun k d (hk : lookK m.nodes k = some d) s (hx : s.size ≤ 1000000000) => mstep R m k d s w h hk (by have := hG.small hk; omega) hx)
 have HG := Lh hG
 have HV := Lh hV
 have HL := Lh hs
 clear hG hV hs h
 go_enter Tryz.func89, Tryz.ntmps89
 go_wp2_with fail
 go_loop [6, 13] (fun aa jj => ∃ (i k : Nat), i ≤ l.length ∧ jj = .int .i64 (i : Int) ∧ aa = .int .i64 (k : Int) ∧ Hid (There m k ∧ walkFrom m 0 (l.map bts) = walkFrom m k ((l.drop i).map bts))) (fun _ jj => l.length - (intOf jj).toNat)
 case atStart => exact ⟨0, 0, by omega, rfl, rfl, HG.out.root.there, by simp⟩
 case round =>
  obtain ⟨i, k, hi, rfl, rfl, HW⟩ := hrel
  by_cases hlt : i < l.length
  · obtain ⟨x, hx⟩ : ∃ x, l[i]? = some x := ⟨_, List.getElem?_eq_getElem hlt⟩
    obtain ⟨Pb, o, rfl, hPb, hcell⟩ := str_cell HV.out hx
    obtain ⟨d, hd⟩ := HW.out.1
    have HC := Lh (HS.out k d hd x (HL.out x (List.mem_of_getElem? hx)))
    have h1 : (i : Int) < (l.length : Int) := by omega
    have h2 : (0 : Int) ≤ (i : Int) := by omega
    have hdrop : l.drop i = x :: l.drop (i + 1) := by
     obtain ⟨hh, e⟩ := List.getElem?_eq_some_iff.1 hx
     rw [List.drop_eq_getElem_cons hh, e]
    have HD := Lh hdrop
    have HK := Lh (And.intro hd hx)
    clear hd hx hdrop hlt
    by_cases he : (stepP m k (bts x)).2 = 0
    · have HE := Lh he
      rw [he] at HC
      clear he
      go_wp2_with fail
      refine HC.out.mono ?_
      rintro e w1 ⟨rfl, rfl⟩
      go_wp2_with fail
      go_round
      case rel =>
       refine ⟨i + 1, (stepP m k (bts x)).1, by omega, by go_num, rfl, HG.out.step ⟨d, HK.out.1⟩ HE.out, ?_⟩
       rw [HW.out.2, HD.out, List.map_cons, walkFrom, if_neg (by rw [HE.out]; simp)]
      case measure => simp [intOf]; omega
    · have hq : ((stepP m k (bts x)).2 != 0) = true := by rw [bne_iff_ne]; exact he
      have HR := Lh (show walkFrom m 0 (l.map bts) = (0, (stepP m k (bts x)).2) from by rw [HW.out.2, HD.out, List.map_cons, walkFrom, if_pos he])
      generalize (stepP m k (bts x)).2 = z at *
      clear he
      go_wp2_with fail
      refine HC.out.mono ?_
      rintro e w1 ⟨rfl, rfl⟩
      go_wp2_with fail
      go_ret2
      exact ⟨by rw [HR.out]; rfl, rfl⟩
  · have h1 : ¬ (i : Int) < (l.length : Int) := by omega
    have HR := Lh (show walkFrom m 0 (l.map bts) = (k, 0) from by rw [HW.out.2, List.drop_eq_nil_of_le (by omega)]; rfl)
    clear hlt
    go_wp2_with fail
    go_ret2
    exact ⟨by rw [HR.out]; rfl, rfl⟩
end Go.Proofs.YtppdihpobokfnaaGreatDoor
set_option linter.unusedVariables false
set_option linter.unusedSimpArgs false
set_option maxRecDepth 100000
namespace Go.Proofs.YtppdihpobokfnaaGreatDoor
open Go.RowKit Go.Joins
theorem csplit_is {s : ByteArray} {m : List ByteArray} {z : Int} (h : splitP (bts s) = (m.map bts, z)) (w : World) : Calls Tryz.prog 87 #[.string s] w fun e w' => (∃ (a : Option Addr) (cap : Nat), e = .returned (.tuple #[.slice a m.length cap, .int .i64 z]) ∧ m.length ≤ cap ∧ (a = none → cap = 0) ∧ NewS w' w.heap.size a (strs m)) ∧ Below w.heap.size w w' := by
 refine (csplit_any s w).mono ?_
 rintro e w' ⟨⟨l, a, cap, h1, h2, h3, h4, h5⟩, hb⟩
 rw [h] at h1 h2
 obtain rfl := map_bts_inj h1
 exact ⟨⟨a, cap, h2, h3, h4, h5⟩, hb⟩
theorem rsplit_is {s : ByteArray} {m : List ByteArray} {z : Int} (h : splitP (bts s) = (m.map bts, z)) (hs : s.size ≤ 100000) (w : World) : Calls Tryz.prog 107 #[.string s] w fun e w' => (∃ (a : Option Addr) (cap : Nat), e = .returned (.tuple #[.slice a m.length cap, .int .i64 z]) ∧ m.length ≤ cap ∧ (a = none → cap = 0) ∧ NewS w' w.heap.size a (strs m)) ∧ Below w.heap.size w w' := by
 refine (rsplit_any s w hs).mono ?_
 rintro e w' ⟨⟨l, a, cap, h1, h2, h3, h4, h5⟩, hb⟩
 rw [h] at h1 h2
 obtain rfl := map_bts_inj h1
 exact ⟨⟨a, cap, h2, h3, h4, h5⟩, hb⟩
theorem split_list (s : ByteArray) : ∃ (m : List ByteArray) (z : Int), splitP (bts s) = (m.map bts, z) := by
 refine ⟨(splitP (bts s)).1.map tx, (splitP (bts s)).2, Prod.ext ?_ rfl⟩
 rw [List.map_map]
 have : (bts ∘ tx) = id := funext fun l => tx_bts l
 rw [this]; simp
theorem split_short {s : ByteArray} {m : List ByteArray} {z : Int} (h : splitP (bts s) = (m.map bts, z)) : m.length ≤ 16 := by
 rcases splitP_two (bts s) with h2 | h2 | h2
 · have h3 := splitP_ok h2
   rw [h] at h3
   have := h3.1.2.1
   simpa using this
 · rw [h] at h2
   injection h2 with h2 _
   have := congrArg List.length h2
   rw [List.length_map, List.length_nil] at this
   omega
 · rw [h] at h2
   injection h2 with h2 _
   have := congrArg List.length h2
   rw [List.length_map, List.length_nil] at this
   omega
theorem vals_front {W : World} {g : Nat} {l : List ByteArray} {r : List Value} (h : RowAt W g (strs l ++ r)) : ValS W (some ⟨g, 0, none⟩) (strs l) := by
 refine .inr ⟨g, 0, rfl, h.lt, fun i u hu => ?_⟩
 have hi := (List.getElem?_eq_some_iff.1 hu).1
 rw [Nat.zero_add, h.cell i (by rw [List.length_append]; omega), List.getElem?_append_left hi]
 exact hu
theorem tx_back (s : ByteArray) : tx (bts s) = s := bts_ext (tx_bts _)
theorem split_parts {s : ByteArray} {l : List ByteArray} (h : splitP (bts s) = (l.map bts, 0)) : ∀ x ∈ l, x.size ≤ 32 := by
 intro x hx
 have h1 := (splitP_ok h).1.1
 rw [List.all_map, List.all_eq_true] at h1
 have h2 := (nmOk_iff.1 (h1 x hx)).2.1
 rw [bts_length] at h2
 exact h2
set_option maxHeartbeats 1000000 in
theorem mfind (R : Rp) (m : Md) (s : ByteArray) (w : World) (h : MdAt w R m) (hG : Good m) :
  Calls Tryz.prog 100 #[.pointer (some ⟨R.mb, 0, none⟩), .string s] w fun e w' => e = .returned (.tuple #[.int .i64 ((findP m (bts s)).1 : Int), .int .i64 (findP m (bts s)).2]) ∧ Below w.heap.size w w' := by
 obtain ⟨l, z, hl⟩ := split_list s
 have HS := Lh (csplit_is hl w)
 by_cases hz : z = 0
 · subst hz
   have HP := Lh (split_parts hl)
   have HL := Lh (split_short hl)
   have HR := Lh (show findP m (bts s) = walkFrom m 0 (l.map bts) from by rw [findP, hl]; rfl)
   have HM := Lh h
   have HG := Lh hG
   clear hl h hG
   go_enter Tryz.func100, Tryz.ntmps100
   go_wp2_with fail
   refine HS.out.mono ?_
   rintro e w1 ⟨⟨a, cap, rfl, h1, h2, hn⟩, hb⟩
   have HW := Lh (mwalk R m a cap l w1 (HM.out.below hb (Nat.le_refl _)) HG.out hn.vals (by have := HL.out; omega) (fun x hx => by have := HP.out x hx; omega))
   have HB := Lh hb
   clear hb hn h2 HS
   go_wp2_with fail
   refine HW.out.mono ?_
   rintro e w2 ⟨rfl, rfl⟩
   go_wp2_with fail
   go_ret2
   exact ⟨by rw [HR.out]; rfl, HB.out⟩
 · have HR := Lh (show findP m (bts s) = (0, z) from by rw [findP, hl, if_pos hz])
   have hq : (z != 0) = true := by rw [bne_iff_ne]; exact hz
   clear hl hz h hG
   go_enter Tryz.func100, Tryz.ntmps100
   go_wp2_with fail
   refine HS.out.mono ?_
   rintro e w1 ⟨⟨a, cap, rfl, h1, h2, hn⟩, hb⟩
   clear hn h2 h1 HS
   have HB := Lh hb
   clear hb
   go_wp2_with fail
   go_ret2
   exact ⟨by rw [HR.out]; rfl, HB.out⟩
def plV (p : Pl) : Value := .agg #[.int .i64 (p.dir : Int), .int .i64 p.node, .string (tx p.name)]
end Go.Proofs.YtppdihpobokfnaaGreatDoor
