/- A part of a proof. -/
import Derived.Test.YtppdihpobokfnaaGreatDoorGNam
set_option linter.unusedVariables false
set_option linter.unusedSimpArgs false
set_option maxRecDepth 100000
namespace Go.Proofs.YtppdihpobokfnaaGreatDoor
open Go.RowKit Go.Joins
theorem bts_drop {s : ByteArray} {k : Nat} (h : k < s.size) : (bts s).drop k = (s[k]'h) :: (bts s).drop (k + 1) := by
 have hl : k < (bts s).length := by rw [bts_length]; exact h
 rw [List.drop_eq_getElem_cons hl]
 congr 1
theorem nm_bad_at {s : ByteArray} {k : Nat} (h : k < s.size) (hb : (s[k]'h) = 0 ∨ (s[k]'h) = 47) : nmOk (bts s) = false := by
 rw [nmOk_bad]
 have hm : (s[k]'h) ∈ bts s := by
  have := bts_drop h
  have h2 : (s[k]'h) ∈ (bts s).drop k := by rw [this]; simp
  exact List.mem_of_mem_drop h2
 have : badP (bts s) = true := by
  rw [badP, List.any_eq_true]
  refine ⟨_, hm, ?_⟩
  rcases hb with e | e <;> rw [e] <;> decide
 rw [this]; simp
theorem nm_good {s : ByteArray} (h1 : 1 ≤ s.size) (h2 : s.size ≤ 32) (h : ∀ k (hk : k < s.size), (s[k]'hk) ≠ 0 ∧ (s[k]'hk) ≠ 47) : nmOk (bts s) = true := by
 rw [nmOk_bad, bts_length, decide_eq_true h1, decide_eq_true h2]
 have : badP (bts s) = false := by
  rw [badP, List.any_eq_false]
  intro x hx
  obtain ⟨k, hk, rfl⟩ := List.getElem_of_mem hx
  have hk' : k < s.size := by rw [← bts_length]; exact hk
  have := h k hk'
  have e : (bts s)[k] = s[k]'hk' := rfl
  rw [e]
  simp [this.1, this.2]
 rw [this]; rfl
theorem rname_any (s : ByteArray) (w : World) : Calls Tryz.prog 133 #[.string s] w fun e w' => e = .returned (.bool (nmOk (bts s))) ∧ w = w' := by
 by_cases h1 : s.size < 1
 · have h1' : (s.size : Int) < 1 := by omega
   have HN := Lh (show nmOk (bts s) = false from by rw [nmOk_bad, bts_length, decide_eq_false (by omega)]; rfl)
   clear h1
   go_enter Tryz.func133, Tryz.ntmps133
   go_wp2_with fail
   go_ret
   rw [HN.out]
   exact ⟨rfl, rfl⟩
 have h1' : ¬ (s.size : Int) < 1 := by omega
 by_cases h2 : 32 < s.size
 · have h2' : (32 : Int) < (s.size : Int) := by omega
   have HN := Lh (show nmOk (bts s) = false from by rw [nmOk_bad, bts_length, decide_eq_false (show ¬ s.size ≤ 32 by omega)]; simp)
   clear h1 h2
   go_enter Tryz.func133, Tryz.ntmps133
   go_wp2_with fail
   go_ret
   rw [HN.out]
   exact ⟨rfl, rfl⟩
 have h2' : ¬ (32 : Int) < (s.size : Int) := by omega
 have HL := Lh (And.intro h1 h2)
 clear h1 h2
 go_enter Tryz.func133, Tryz.ntmps133
 go_wp2_with fail
 go_loopw [3] (fun jj wr => ∃ k : Nat, k ≤ s.size ∧ jj = .int .i64 k ∧ Hid (∀ j (hj : j < s.size), j < k → (s[j]'hj) ≠ 0 ∧ (s[j]'hj) ≠ 47) ∧ w = wr) (fun jj _ => s.size - (intOf jj).toNat)
 case atStart => exact ⟨0, by omega, rfl, fun j hj h => by omega, rfl⟩
 case round =>
  obtain ⟨k, hk, rfl, HA, rfl⟩ := hrel
  by_cases hlt : k < s.size
  · have p0 : (0 : Int) ≤ (k : Int) := by omega
    have p1 : (k : Int) < (s.size : Int) := by omega
    obtain ⟨c, hc⟩ : ∃ c : UInt8, s[k]'hlt = c := ⟨_, rfl⟩
    have hidx : ∀ w, (Instr.index 9 (.string s) (.int .i64 (k : Int))).run Tryz.prog w = .ok (.int .u8 (c.toNat : Int)) w := by
     intro w
     have hkk : (0 : Int) ≤ (k : Int) ∧ (k : Int) < (s.size : Int) := by omega
     have e1 : ((k : Int)).toNat = k := by omega
     simp [Instr.index, go_sem, Tryz.underlying9, e1, hlt, hc, asIntOf]
    by_cases h0 : c = 0
    · have q0 : ((c.toNat : Int) == 0) = true := by rw [h0]; rfl
      have HN := Lh (nm_bad_at hlt (.inl (hc.trans h0)))
      clear hc h0
      go_wp2_with fail
      go_ret
      rw [HN.out]
      exact ⟨rfl, rfl⟩
    have q0 : ((c.toNat : Int) == 0) = false := by
     rw [beq_eq_false_iff_ne]
     intro e
     exact h0 (UInt8.toNat_inj.1 (by show c.toNat = 0; omega))
    by_cases h47 : c = 47
    · have q1 : ((c.toNat : Int) == 47) = true := by rw [h47]; rfl
      have HN := Lh (nm_bad_at hlt (.inr (hc.trans h47)))
      clear hc h0 h47
      go_wp2_with fail
      go_ret
      rw [HN.out]
      exact ⟨rfl, rfl⟩
    have q1 : ((c.toNat : Int) == 47) = false := by
     rw [beq_eq_false_iff_ne]
     intro e
     exact h47 (UInt8.toNat_inj.1 (by show c.toNat = 47; omega))
    have HA2 : Hid (∀ j (hj : j < s.size), j < k + 1 → (s[j]'hj) ≠ 0 ∧ (s[j]'hj) ≠ 47) := by
     intro j hj hjk
     by_cases e : j < k
     · exact HA.out j hj e
     · obtain rfl : j = k := by omega
       rw [hc]; exact ⟨h0, h47⟩
    clear hc h0 h47
    go_wp2_with fail
    go_roundw
    case rel => exact ⟨k + 1, by omega, by go_num, HA2, by first | rfl | trivial⟩
    case measure => simp [intOf]; omega
  · obtain rfl : k = s.size := by omega
    have hnl : ¬ ((s.size : Int) < (s.size : Int)) := by omega
    have HN := Lh (nm_good (s := s) (by have := HL.out.1; omega) (by have := HL.out.2; omega) (fun j hj => HA.out j hj hj))
    go_wp2_with fail
    go_ret
    rw [HN.out]
    exact ⟨rfl, rfl⟩
def tx (l : List UInt8) : ByteArray := ⟨l.toArray⟩
theorem tx_size (l : List UInt8) : (tx l).size = l.length := by simp [tx, ByteArray.size]
theorem tx_bts (l : List UInt8) : bts (tx l) = l := by simp [tx]
end Go.Proofs.YtppdihpobokfnaaGreatDoor
set_option linter.unusedVariables false
set_option linter.unusedSimpArgs false
set_option maxRecDepth 100000
namespace Go.Proofs.YtppdihpobokfnaaGreatDoor
open Go.RowKit Go.Joins
structure RefAt (s : ByteArray) (k f : Nat) (L : List ByteArray) : Prop where
 all : pieces ((bts s).drop 1) = L.map bts ++ pieces ((bts s).drop f)
 le : f ≤ k
 no : ∀ j, f ≤ j → j < k → (bts s)[j]? ≠ some 47
 ok : ∀ x ∈ L, nmOk (bts x) = true
 len : L.length ≤ k
theorem RefAt.on {s : ByteArray} {k f : Nat} {L : List ByteArray} (h : RefAt s k f L) (hk : (bts s)[k]? ≠ some 47) : RefAt s (k + 1) f L :=
 ⟨h.all, by have := h.le; omega, fun j h1 h2 => by
  by_cases e : j < k
  · exact h.no j h1 e
  · obtain rfl : j = k := by omega
    exact hk, h.ok, by have := h.len; omega⟩
theorem RefAt.piece {s : ByteArray} {k f : Nat} {L : List ByteArray} (h : RefAt s k f L) : bts (s.extract f k) = ((bts s).drop f).take (k - f) := bts_extract s f k
theorem RefAt.cut {s : ByteArray} {k f : Nat} {L : List ByteArray} (h : RefAt s k f L) (hk : (bts s)[k]? = some 47) : pieces ((bts s).drop f) = bts (s.extract f k) :: pieces ((bts s).drop (k + 1)) := by
 have hl := h.le
 have := pieces_cut (l := (bts s).drop f) (m := k - f) (by rw [List.getElem?_drop, show f + (k - f) = k by omega]; exact hk) (fun j hj => by rw [List.getElem?_drop]; exact h.no _ (by omega) (by omega))
 rw [this, h.piece, List.drop_drop, show f + (k - f + 1) = k + 1 by omega]
theorem RefAt.last {s : ByteArray} {f : Nat} {L : List ByteArray} (h : RefAt s s.size f L) : pieces ((bts s).drop f) = [bts (s.extract f s.size)] := by
 rw [bts_from]
 refine pieces_one ?_
 intro hm
 obtain ⟨j, hj, he⟩ := List.getElem_of_mem hm
 have := h.no (f + j) (by omega) (by simp at hj; omega)
 rw [← List.getElem?_drop, List.getElem?_eq_getElem hj, he] at this
 exact this rfl
theorem RefAt.step {s : ByteArray} {k f : Nat} {L : List ByteArray} (h : RefAt s k f L) (hk : (bts s)[k]? = some 47) (hn : nmOk (bts (s.extract f k)) = true) : RefAt s (k + 1) (k + 1) (L ++ [s.extract f k]) :=
 ⟨by rw [h.all, h.cut hk, List.map_append, List.append_assoc]; rfl, Nat.le_refl _, fun j h1 h2 => by omega, fun x hx => by
  rcases List.mem_append.1 hx with hx | hx
  · exact h.ok x hx
  · have : x = s.extract f k := by simpa using hx
    rw [this]; exact hn, by have := h.len; simp; omega⟩
theorem RefAt.bad {s : ByteArray} {k f : Nat} {L : List ByteArray} (h : RefAt s k f L) (hk : (bts s)[k]? = some 47 ∨ k = s.size) (hn : nmOk (bts (s.extract f k)) = false) : (pieces ((bts s).drop 1)).all nmOk = false := by
 rw [List.all_eq_false]
 refine ⟨bts (s.extract f k), ?_, by rw [hn]; simp⟩
 rw [h.all]
 refine List.mem_append_right _ ?_
 rcases hk with hk | rfl
 · rw [h.cut hk]; simp
 · rw [h.last]; simp
theorem RefAt.done {s : ByteArray} {f : Nat} {L : List ByteArray} (h : RefAt s s.size f L) (hn : nmOk (bts (s.extract f s.size)) = true) : pieces ((bts s).drop 1) = (L ++ [s.extract f s.size]).map bts ∧ ∀ x ∈ L ++ [s.extract f s.size], nmOk (bts x) = true := by
 refine ⟨by rw [h.all, h.last, List.map_append]; rfl, fun x hx => ?_⟩
 rcases List.mem_append.1 hx with hx | hx
 · exact h.ok x hx
 · have : x = s.extract f s.size := by simpa using hx
   rw [this]; exact hn
theorem splitP_body {s : ByteArray} {r : List UInt8} (h : bts s = 47 :: r) (hr : r ≠ []) (hs : s.size ≤ 256) : splitP (bts s) = if (pieces ((bts s).drop 1)).all nmOk then (if 16 < (pieces ((bts s).drop 1)).length then ([], 3) else (pieces ((bts s).drop 1), 0)) else ([], 130) := by
 have hl : ¬ 256 < (bts s).length := by rw [bts_length]; omega
 unfold splitP
 rw [if_neg hl, h]
 simp only [if_true, hr, if_false, List.drop_succ_cons, List.drop_zero]
theorem own_strs {w : World} {base : Nat} {e : TypeId} {a : Option Addr} {cap : Nat} {L : List ByteArray} (h : w.ownsRow base e 1 (.slice a L.length cap) L.length (strs L)) : L.length ≤ cap ∧ (a = none → cap = 0) ∧ NewS w base a (strs L) := by
 obtain ⟨a', cap', hv, hnew, _⟩ := own_news h
 injection hv with hv1 _ hv3
 subst hv1 hv3
 rcases h.2 with ⟨hv, h0⟩ | ⟨g, cap', cur, hv, _, _, hc, _⟩
 · injection hv with h1 _ h3
   exact ⟨by omega, fun _ => h3, hnew⟩
 · injection hv with h1 _ h3
   exact ⟨by omega, (fun h => by rw [h1] at h; cases h), hnew⟩
def RefI (s : ByteArray) (k f : Nat) (L : List ByteArray) : Prop := (k ≤ s.size ∧ RefAt s k f L) ∨ (k = s.size + 1 ∧ L.length ≤ s.size + 1 ∧ pieces ((bts s).drop 1) = L.map bts ∧ ∀ x ∈ L, nmOk (bts x) = true)
set_option maxHeartbeats 8000000 in
theorem rsplit_any (s : ByteArray) (w : World) (hsz : s.size ≤ 100000) : Calls Tryz.prog 107 #[.string s] w (SplitR s w) := by
 have B0 : Below w.heap.size w w := Below.refl _ _
 have hsi : (s.size : Int) ≤ 100000 := by omega
 by_cases h1 : 256 < s.size
 · have h1' : (256 : Int) < (s.size : Int) := by omega
   have HR := Lh (splitP_long (p := bts s) (by rw [bts_length]; exact h1))
   clear h1
   go_enter Tryz.func107, Tryz.ntmps107
   go_wp2_with fail
   go_ret2
   exact split_none HR.out B0
 have h1' : ¬ (256 : Int) < (s.size : Int) := by omega
 by_cases h0 : s.size = 0
 · have h0' : (s.size : Int) = 0 := by omega
   have HR := Lh (show splitP (bts s) = ([], 130) from by
    have : bts s = [] := List.length_eq_zero_iff.1 (by rw [bts_length]; exact h0)
    rw [this]; rfl)
   clear h0 h1 hsz
   go_enter Tryz.func107, Tryz.ntmps107
   go_wp2_with fail
   go_ret2
   exact split_none HR.out B0
 have h0' : ((s.size : Int) == 0) = false := by rw [beq_eq_false_iff_ne]; omega
 have h0q : (0 : Int) < (s.size : Int) := by omega
 have hidx : ∀ (k : Nat) (hk : k < s.size), ∀ w, (Instr.index 9 (.string s) (.int .i64 (k : Int))).run Tryz.prog w = .ok (.int .u8 ((s[k]'hk).toNat : Int)) w := by
  intro k hk w
  have hkk : (0 : Int) ≤ (k : Int) ∧ (k : Int) < (s.size : Int) := by omega
  have e1 : ((k : Int)).toNat = k := by omega
  simp [Instr.index, go_sem, Tryz.underlying9, e1, hk, asIntOf]
 have hget : ∀ (k : Nat) (hk : k < s.size), (bts s)[k]? = some (s[k]'hk) := fun k hk => by
  rw [List.getElem?_eq_getElem (by rw [bts_length]; exact hk)]; rfl
 have HIdx := Lh hidx
 have HGet := Lh hget
 have i0 : ∀ w, (Instr.index 9 (.string s) (.int .i64 0)).run Tryz.prog w = .ok (.int .u8 ((s[0]'(by omega)).toNat : Int)) w := hidx 0 (by omega)
 clear hidx hget
 by_cases h47 : (s[0]'(by omega)) = 47
 · have hr : bts s = 47 :: (bts s).drop 1 := by
    have := bts_drop (s := s) (k := 0) (by omega)
    rw [List.drop_zero, h47] at this
    exact this
   have q0 : (((s[0]'(by omega)).toNat : Int) != 47) = false := by rw [h47]; rfl
   rw [show ((s[0]'(by omega)).toNat : Int) = 47 from by rw [h47]; rfl] at i0
   clear q0 h47
   have kk : s.toList = bts s := Lib.toList_data s
   by_cases h2 : (bts s).drop 1 = []
   · have p1 : s.toList = [47] := by rw [kk, hr, h2]
     have HR := Lh (show splitP (bts s) = ([], 0) from by rw [hr, h2]; rfl)
     clear h0 h1 hr kk h2 hsz
     go_enter Tryz.func107, Tryz.ntmps107
     go_wp2_with fail
     go_ret2
     exact split_none HR.out B0
   have p1 : ¬ s.toList = [47] := by
    intro e
    rw [kk] at e
    rw [e] at h2
    exact h2 rfl
   have b1 : (s.toList == [47]) = false := by simpa using p1
   have HB := Lh (splitP_body hr h2 (by omega))
   have hstart : RefI s 1 1 [] := .inl ⟨by omega, rfl, Nat.le_refl _, fun j h1 h2 => by omega, fun x hx => by simp at hx, by simp⟩
   have HSt := Lh hstart
   obtain ⟨is, his, hz0, hz1, hz2⟩ := info_parts info_str
   have HI := Lh (And.intro his (And.intro hz0 (And.intro hz1 hz2)))
   have hs257 : s.size ≤ 256 := by omega
   clear h0 h1 hr kk h2 hstart his hz0 hz1 hz2
   go_enter Tryz.func107, Tryz.ntmps107
   go_wp2_with fail
   clear i0 p1
   go_loopw [4, 5, 6] (fun ll ff jj wr => ∃ (k f : Nat) (L : List ByteArray) (a : Option Addr) (cap : Nat), f ≤ k ∧ k ≤ s.size + 1 ∧ jj = .int .i64 k ∧ ff = .int .i64 f ∧ ll = .slice a L.length cap ∧ L.length ≤ 300 ∧ Hid (RefI s k f L ∧ wr.ownsRow w.heap.size 9 1 (.slice a L.length cap) L.length (strs L)) ∧ Below w.heap.size w wr) (fun _ _ jj _ => s.size + 1 - (intOf jj).toNat)
   case atStart => exact ⟨1, 1, [], none, 0, Nat.le_refl _, by omega, rfl, rfl, rfl, by simp, ⟨HSt.out, World.ownsRow_nil _ _ _ _⟩, B0⟩
   case round =>
    obtain ⟨k, f, L, a, cap, hfk, hks, rfl, rfl, rfl, hLl, HG, B⟩ := hrel
    clear B0 HSt
    by_cases hle : k ≤ s.size
    · have hR : RefAt s k f L := by
       rcases HG.out.1 with h | h
       · exact h.2
       · omega
      have HR := Lh hR
      have i1 : (k : Int) ≤ (s.size : Int) := by omega
      have i2 : (0 : Int) ≤ (k : Int) := by omega
      have i3 : (0 : Int) ≤ (f : Int) := by omega
      have i4 : (f : Int) ≤ (k : Int) := by omega
      clear hR
      have hL2 : L.length ≤ 256 := by have := HR.out.len; omega
      have hfk2 : IntKind.i64.wrap ((k : Int) + 1) = (k : Int) + 1 := IntWalk.i64_in _ (by omega)
      by_cases hcut : (bts s)[k]? = some 47 ∨ k = s.size
      · rcases hcut with hq | hq
        · skip
          have h47 : (bts s)[k]? = some 47 := hq
          have hkl : k < s.size := by
           have := (List.getElem?_eq_some_iff.1 h47).1
           rw [← bts_length s]; exact this
          have j1 : (k : Int) < (s.size : Int) := by omega
          have ix := HIdx.out k hkl
          rw [show (s[k]'hkl) = 47 from by have := HGet.out k hkl; rw [h47] at this; injection this with this; exact this.symm] at ix
          have ix : ∀ w, (Instr.index 9 (.string s) (.int .i64 (k : Int))).run Tryz.prog w = .ok (.int .u8 47) w := ix
          have HN := Lh (fun W => rname_any (s.extract f k) W)
          clear hq
          have H47 := Lh h47
          clear h47
          cases hn : nmOk (bts (s.extract f k)) with
          | false =>
           have HE := Lh (show splitP (bts s) = ([], 130) from by rw [HB.out, HR.out.bad (.inl H47.out) hn]; simp)
           rw [hn] at HN
           clear hn
           go_wp2_with fail
           refine (HN.out _).mono ?_
           rintro e w3 ⟨rfl, hww⟩
           obtain rfl := hww
           go_wp2_with fail
           go_ret2
           exact split_none HE.out B
          | true =>
           have HRI := Lh (show RefI s (k + 1) (k + 1) (L ++ [s.extract f k]) from .inl ⟨by omega, HR.out.step H47.out hn⟩)
           rw [hn] at HN
           have HRw := Lh (row_news4 (rowAt_alloc wr #[.string (s.extract f k)] 9))
           have HLL := Lh (fun j hj => World.ownsRow.lt HG.out.2 j hj)
           clear hn
           go_wp2_with fail
           refine (HN.out _).mono ?_
           rintro e w3 ⟨rfl, hww⟩
           obtain rfl := hww
           go_wp2_with (at_builtin; refine wpList_append_own _ rfl _ _ 28 rfl w.heap.size 9 is (.string ⟨#[]⟩) 1 16 Tryz.underlying28 HI.out.1 HI.out.2.1 HI.out.2.2.1 HI.out.2.2.2 rfl (by decide) _ L.length _ rfl (HG.out.2.alloc _) ⟨wr.heap.size, 0, none⟩ 1 1 [.string (s.extract f k)] rfl rfl HRw.out (by intro u hu; simp at hu; subst hu; rfl) (by unfold maxLen; omega) (by omega) (by have := B.size; simp; omega) ?_)
           intro v9 w9 own9 grow9 _
           obtain ⟨a9, cap9, rfl⟩ := own_form own9
           have B9 := grown_below4 (B.alloc B.size (.cells #[.string (s.extract f k)] 9)) grow9 (fun j hj => (HLL.out j hj).1) (by have := B.size; simp; omega)
           have HO9 : Hid (w9.ownsRow w.heap.size 9 1 (.slice a9 (L ++ [s.extract f k]).length cap9) (L ++ [s.extract f k]).length (strs (L ++ [s.extract f k]))) := by
            show World.ownsRow _ _ _ _ _ _ _
            rw [List.length_append, strs, List.map_append]
            exact own9
           clear own9 grow9 HRw
           go_wp2_with fail
           go_roundw
           case rel => exact ⟨k + 1, k + 1, L ++ [s.extract f k], a9, cap9, Nat.le_refl _, by omega, by first | go_num | (rw [IntWalk.i64_in _ (by omega)]; rfl), by first | go_num | (rw [IntWalk.i64_in _ (by omega)]; rfl), by simp, by simp; omega, ⟨HRI.out, HO9.out⟩, B9⟩
           case measure => simp [intOf]; try omega
        · obtain rfl : k = s.size := hq
          have j1 : ¬ ((s.size : Int) < (s.size : Int)) := by omega
          have HN := Lh (fun W => rname_any (s.extract f s.size) W)
          cases hn : nmOk (bts (s.extract f s.size)) with
          | false =>
           have HE := Lh (show splitP (bts s) = ([], 130) from by rw [HB.out, HR.out.bad (.inr rfl) hn]; simp)
           rw [hn] at HN
           clear hn
           go_wp2_with fail
           refine (HN.out _).mono ?_
           rintro e w3 ⟨rfl, hww⟩
           obtain rfl := hww
           go_wp2_with fail
           go_ret2
           exact split_none HE.out B
          | true =>
           have HRI := Lh (show RefI s (s.size + 1) (s.size + 1) (L ++ [s.extract f s.size]) from .inr ⟨rfl, by have := HR.out.len; simp; omega, (HR.out.done hn).1, (HR.out.done hn).2⟩)
           rw [hn] at HN
           have HRw := Lh (row_news4 (rowAt_alloc wr #[.string (s.extract f s.size)] 9))
           have HLL := Lh (fun j hj => World.ownsRow.lt HG.out.2 j hj)
           clear hn
           go_wp2_with fail
           refine (HN.out _).mono ?_
           rintro e w3 ⟨rfl, hww⟩
           obtain rfl := hww
           go_wp2_with (at_builtin; refine wpList_append_own _ rfl _ _ 28 rfl w.heap.size 9 is (.string ⟨#[]⟩) 1 16 Tryz.underlying28 HI.out.1 HI.out.2.1 HI.out.2.2.1 HI.out.2.2.2 rfl (by decide) _ L.length _ rfl (HG.out.2.alloc _) ⟨wr.heap.size, 0, none⟩ 1 1 [.string (s.extract f s.size)] rfl rfl HRw.out (by intro u hu; simp at hu; subst hu; rfl) (by unfold maxLen; omega) (by omega) (by have := B.size; simp; omega) ?_)
           intro v9 w9 own9 grow9 _
           obtain ⟨a9, cap9, rfl⟩ := own_form own9
           have B9 := grown_below4 (B.alloc B.size (.cells #[.string (s.extract f s.size)] 9)) grow9 (fun j hj => (HLL.out j hj).1) (by have := B.size; simp; omega)
           have HO9 : Hid (w9.ownsRow w.heap.size 9 1 (.slice a9 (L ++ [s.extract f s.size]).length cap9) (L ++ [s.extract f s.size]).length (strs (L ++ [s.extract f s.size]))) := by
            show World.ownsRow _ _ _ _ _ _ _
            rw [List.length_append, strs, List.map_append]
            exact own9
           clear own9 grow9 HRw
           go_wp2_with fail
           go_roundw
           case rel => exact ⟨s.size + 1, s.size + 1, L ++ [s.extract f s.size], a9, cap9, Nat.le_refl _, by omega, by first | go_num | (rw [IntWalk.i64_in _ (by omega)]; rfl), by first | go_num | (rw [IntWalk.i64_in _ (by omega)]; rfl), by simp, by simp; omega, ⟨HRI.out, HO9.out⟩, B9⟩
           case measure => simp [intOf]; try omega
      · have hkl : k < s.size := by
         rcases Nat.lt_or_ge k s.size with h | h
         · exact h
         · exact absurd (.inr (by omega)) hcut
        have hne : (bts s)[k]? ≠ some 47 := fun h => hcut (.inl h)
        have j1 : (k : Int) < (s.size : Int) := by omega
        have ix := HIdx.out k hkl
        have hc : (((s[k]'hkl).toNat : Int) != 47) = true := by
         rw [bne_iff_ne]
         intro e
         refine hne ?_
         rw [HGet.out k hkl]
         exact congrArg some (UInt8.toNat_inj.1 (by show _ = 47; omega))
        have HRI := Lh (show RefI s (k + 1) f L from .inl ⟨by omega, HR.out.on hne⟩)
        clear hcut hne
        generalize (s[k]'hkl) = c at *
        go_wp2_with fail
        go_roundw
        case rel => exact ⟨k + 1, f, L, a, cap, by omega, by omega, by go_num, rfl, rfl, hLl, ⟨HRI.out, HG.out.2⟩, B⟩
        case measure => simp [intOf]; try omega
    · obtain rfl : k = s.size + 1 := by omega
      have hR : pieces ((bts s).drop 1) = L.map bts ∧ ∀ x ∈ L, nmOk (bts x) = true := by
       rcases HG.out.1 with h | h
       · omega
       · exact h.2.2
      obtain ⟨e1, e2⟩ := hR
      have hall : (pieces ((bts s).drop 1)).all nmOk = true := by
       rw [e1, List.all_map, List.all_eq_true]
       exact fun x hx => e2 x hx
      have hn1 : ¬ ((s.size : Int) + 1 ≤ (s.size : Int)) := by omega
      have hb := HB.out
      rw [hall, e1, List.length_map] at hb
      have HO := Lh (own_strs HG.out.2)
      by_cases h16 : 16 < L.length
      · have h16' : (16 : Int) < (L.length : Int) := by omega
        have HR := Lh (show splitP (bts s) = ([], 3) from by rw [hb]; simp only [if_true, if_pos h16])
        clear e1 e2 hall hb h16
        go_wp2_with fail
        go_ret2
        exact split_none HR.out B
      · have h16' : ¬ (16 : Int) < (L.length : Int) := by omega
        have HR := Lh (show splitP (bts s) = (L.map bts, 0) from by rw [hb]; simp only [if_true, if_neg h16])
        clear e1 e2 hall hb h16
        go_wp2_with fail
        go_ret2
        exact ⟨⟨L, a, cap, by rw [HR.out], by rw [HR.out]; rfl, HO.out.1, HO.out.2.1, HO.out.2.2⟩, B⟩
 · have q0 : (((s[0]'(by omega)).toNat : Int) != 47) = true := by
    rw [bne_iff_ne]
    intro e
    exact h47 (UInt8.toNat_inj.1 (by show _ = 47; omega))
   have HR := Lh (show splitP (bts s) = ([], 130) from by
    have hr : bts s = (s[0]'(by omega)) :: (bts s).drop 1 := bts_drop (s := s) (k := 0) (by omega)
    unfold splitP
    rw [if_neg (by rw [bts_length]; exact h1), hr]
    simp only [h47, if_false])
   generalize (s[0]'(by omega)) = c0 at *
   clear h0 h1 h47 hsz
   go_enter Tryz.func107, Tryz.ntmps107
   go_wp2_with fail
   go_ret2
   exact split_none HR.out B0
end Go.Proofs.YtppdihpobokfnaaGreatDoor
