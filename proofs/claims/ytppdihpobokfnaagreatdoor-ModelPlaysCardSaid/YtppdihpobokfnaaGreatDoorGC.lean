/- A part of a proof. -/
import Derived.Lib.AppendZeros
import Derived.Test.YtppdihpobokfnaaGreatDoorModW8
set_option linter.unusedVariables false
set_option linter.unusedSimpArgs false
namespace Go.Proofs.YtppdihpobokfnaaGreatDoor
open Go Go.RowKit
theorem zc_list (m : Nat) : (Builtin.zeroCells (Value.int .u8 0).cells m).toList = List.replicate m (Value.int .u8 0) := by
 apply List.ext_getElem?
 intro j
 simp only [Builtin.zeroCells, Value.cells, List.getElem?_replicate]
 by_cases h : j < m
 · rw [if_pos h]
   simp [h, Nat.mod_one]
 · rw [if_neg h]
   simp; omega
theorem zc_size (m : Nat) : (Builtin.zeroCells (Value.int .u8 0).cells m).size = m := by
 rw [size_zeroCells]; simp [Value.cells]
section
variable {P : Program} (w : World)
theorem run_append_zeros (t tn ty e : TypeId) (i : TypeInfo) (ht : P.underlying t = some (.slice e)) (htn : P.underlying tn = some (.int .i64)) (hi : P.info? e = some i) (hz : i.zero = some (.int .u8 0)) (hs : i.size = 1) (hb : i.bytes = 1)
  (v : Value) (n : Nat) (xs : List Value) (hown : OwnB w e v n xs) (m : Nat) (h0 : 0 < m) (hnm : n + m ≤ 1000000000) :
  ∃ v' w', (Builtin.append_ #[t, tn] ty #[v, .int .i64 (m : Int)]).run P w = .ok v' w' ∧ OwnB w' e v' (n + m) (xs ++ List.replicate m (Value.int .u8 0)) ∧ w.grownBy w' v.ownBlock ∧ (v'.ownBlock = v.ownBlock ∨ v'.ownBlock = some w.heap.size) := by
 have hn0 : m ≠ 0 := by omega
 have hw : IntKind.i64.wrap (m : Int) = m := by rw [IntKind.wrap_i64]; omega
 have hneg : ¬ ((m : Int) < 0) := by omega
 have h48i : ¬ (281474976710656 < (m : Int)) := by omega
 have hlen : (xs ++ List.replicate m (Value.int .u8 0)).length = n + m := by rw [List.length_append, hown.1, List.length_replicate]
 rcases hown.2 with ⟨rfl, rfl⟩ | ⟨g, cap, cur, rfl, hg, hnc, hcm, hcs, htake⟩
 · have hx : xs = [] := List.eq_nil_of_length_eq_zero (by simpa using hown.1)
   subst hx
   have hr := Lib.run_append_nil_zeros (P := P) w t tn ty e i (.int .u8 0) .i64 .i64 ht htn hi hz m h0 (by omega) (by omega) (by rw [hb]; omega)
   have hge := grownCap_ge w m 0 e
   have hcm : grownCap w m 0 e ≤ maxLen := grownCap_le_maxLen w m 0 e (by unfold maxLen; omega)
   refine ⟨_, _, hr, ⟨hlen, .inr ⟨w.heap.size, _, _, by simp, heap_alloc_new w.drew _, by simpa using hge, hcm, ?_, ?_⟩⟩, ⟨rfl, rfl, rfl, by simp, fun k hk _ => RowKit.Below.heap_alloc w.drew _ k hk⟩, .inr rfl⟩
   · rw [Array.size_append, zc_size, zc_size]; omega
   · rw [Array.toList_append, zc_list, zc_list, List.nil_append]
     rw [List.take_left' (by simp)]
 · by_cases hroom : n + m ≤ cap
   · have hnews : (Builtin.zeroCells (Value.int .u8 0).cells m).toList.length = m := by rw [zc_list, List.length_replicate]
     have hst := run_storeCells_at P g (n * i.size) e (Builtin.zeroCells (Value.int .u8 0).cells m).toList 0 cur w hg (by rw [hnews, hs]; omega) (by rw [zc_list]; intro u hu; rw [List.mem_replicate] at hu; rw [hu.2]; rfl)
     simp only [Nat.add_zero] at hst
     have hr : (Builtin.append_ #[t, tn] ty #[.slice (some ⟨g, 0, none⟩) n cap, .int .i64 (m : Int)]).run P w = .ok (.slice (some ⟨g, 0, none⟩) (n + m) cap) (w.setRow g (cur.toList.take (n * i.size) ++ (Builtin.zeroCells (Value.int .u8 0).cells m).toList ++ cur.toList.drop (n * i.size + (Builtin.zeroCells (Value.int .u8 0).cells m).toList.length)).toArray) := by
      rw [hs] at hst
      simp at hst
      simp [Builtin.append_, run_underlying ht, run_underlying htn, sizeOf, typeInfo, zeroValue, hi, hz, hs, hb, asInt, asIntOf, hw, hn0, hneg, h48i, hroom, Addr.add_lit, hst]
     refine ⟨_, _, hr, ⟨hlen, .inr ⟨g, cap, _, rfl, setRow_heap w g cur _ e _ hg, hroom, hcm, ?_, ?_⟩⟩, ⟨rfl, rfl, rfl, by simp, fun k _ hk => setRow_other w g k _ (fun e => hk (by simp [Value.ownBlock, e]))⟩, .inl rfl⟩
     · simp only [List.size_toArray, List.length_append, List.length_take, List.length_drop, Array.length_toList, hnews, hs]
       omega
     · rw [hs, Nat.mul_one, htake, zc_list, ← hlen]
       exact List.take_left
   · have holds : ∀ j u, xs[j]? = some u → w.cell? ((⟨g, 0, none⟩ : Addr).add j) = some u := fun j u hj => by
      have hjl := (List.getElem?_eq_some_iff.1 hj).1
      rw [addr_add, Nat.zero_add]
      simp only [World.cell?, hg]
      have h9 : (cur.toList.take n)[j]? = some u := by rw [htake]; exact hj
      rw [List.getElem?_take_of_lt (by rw [← hown.1]; exact hjl), Array.getElem?_toList] at h9
      exact h9
     have hfo := run_firstCells_some (P := P) w.drew i.size n ⟨g, 0, none⟩ n cap xs (by rw [hs, Nat.mul_one]; exact hown.1) (by simpa using holds)
     have h48' : ¬ (281474976710656 < Builtin.nextslicecap (n + m) cap) := by
      have := growslice_fits (need := n + m) (old := cap) (bytes := 1) (by omega) (by omega)
      omega
     have h63' : ¬ (9223372036854775807 < ((n : Int) + (m : Int))) := by omega
     have hr : (Builtin.append_ #[t, tn] ty #[.slice (some ⟨g, 0, none⟩) n cap, .int .i64 (m : Int)]).run P w = .ok (.slice (some ⟨w.heap.size, 0, none⟩) (n + m) (grownCap w (n + m) cap e)) (w.drew.alloc (.cells (xs.toArray ++ Builtin.zeroCells (Value.int .u8 0).cells m ++ Builtin.zeroCells (Value.int .u8 0).cells (grownCap w (n + m) cap e - (n + m))) e)) := by
      rw [hs] at hfo
      simp [Builtin.append_, run_underlying ht, run_underlying htn, sizeOf, typeInfo, zeroValue, hi, hz, hs, hb, asInt, asIntOf, hw, hn0, hneg, h48i, hroom, h63', h48', Question.forced, hfo, newRow, grownCap]
     have hge := grownCap_ge w (n + m) cap e
     have hcm2 : grownCap w (n + m) cap e ≤ maxLen := grownCap_le_maxLen w (n + m) cap e (by unfold maxLen; omega)
     refine ⟨_, _, hr, ⟨hlen, .inr ⟨w.heap.size, _, _, rfl, heap_alloc_new w.drew _, hge, hcm2, ?_, ?_⟩⟩, ⟨rfl, rfl, rfl, by simp, fun k hk _ => RowKit.Below.heap_alloc w.drew _ k hk⟩, .inr rfl⟩
     · rw [Array.size_append, Array.size_append, zc_size, zc_size, List.size_toArray, hown.1]; omega
     · rw [Array.toList_append, Array.toList_append, zc_list, zc_list]
       rw [← hlen]
       exact List.take_left
end
theorem step_append_zeros {P : Program} {ops : Array Oper} {o : Oper} {a : Act} {w : World} {K : Act → World → Prop} {Q : Exit → Act → World → Prop} {E : Prop} (hg : o.guard = none) (s x : Operand) (t tn : TypeId)
  (ho : o.op = .call { callee := .builtin .append, args := #[s, x], argTypes := #[t, tn] }) (e : TypeId) (i : TypeInfo) (ht : P.underlying t = some (.slice e)) (htn : P.underlying tn = some (.int .i64)) (hi : P.info? e = some i) (hz : i.zero = some (.int .u8 0)) (hs : i.size = 1) (hb : i.bytes = 1)
  (v : Value) (n : Nat) (xs : List Value) (hv : a.eval s = v) (hown : OwnB w e v n xs) (m : Nat) (h0 : 0 < m) (hx : a.eval x = .int .i64 (m : Int)) (hnm : n + m ≤ 1000000000)
  (hK : ∀ v' w', OwnB w' e v' (n + m) (xs ++ List.replicate m (Value.int .u8 0)) → w.grownBy w' v.ownBlock → (v'.ownBlock = v.ownBlock ∨ v'.ownBlock = some w.heap.size) → K (a.put o.dst v') w') :
  if Region.wanted o (yielded ops a.tmps) = true then Oper.wp P o a w K Q else E := by
 have hw : Region.wanted o (yielded ops a.tmps) = true := by simp [Region.wanted, hg]
 rw [if_pos hw]
 obtain ⟨v', w', hr, h1, h2, h3⟩ := run_append_zeros (P := P) w t tn o.type e i ht htn hi hz hs hb v n xs hown m h0 hnm
 exact Lib.wp_append_run w s x t tn ho _ _ hv hx v' w' hr (hK v' w' h1 h2 h3)
theorem zc_grow (l : Bs) (n : Nat) (h : l.length < n) : bcells l ++ List.replicate (n - l.length) (Value.int .u8 0) = bcells (growB l n) := by
 rw [growB, bcells, bcells, List.map_append, List.map_replicate]
 rfl
theorem growB_len (l : Bs) (n : Nat) : (growB l n).length = max l.length n := by
 rw [growB, List.length_append, List.length_replicate]
 omega
theorem growB_same (l : Bs) (n : Nat) (h : n ≤ l.length) : growB l n = l := by
 rw [growB, Nat.sub_eq_zero_of_le h]
 simp
theorem run_copy_text {P : Program} (w : World) (t ts ty e : TypeId) (ht : P.underlying t = some (.slice e)) {i : TypeInfo} (hi : P.info? e = some i) (hs : i.size = 1) (g n cap c2 k at_ : Nat) (xs : Bs) (hown : OwnB w e (.slice (some ⟨g, 0, none⟩) n cap) n (bcells xs)) (s : ByteArray) (h : at_ + s.size ≤ n) (hk : s.size ≤ k) :
  ∃ w', (Builtin.copy_ #[t, ts] ty #[.slice (some ⟨g, at_, none⟩) k c2, .string s]).run P w = .ok (.int .i64 (s.size : Int)) w' ∧ OwnB w' e (.slice (some ⟨g, 0, none⟩) n cap) n (bcells (overB xs at_ (bts s))) ∧ w.grownBy w' (some g) := by
 rcases hown.2 with ⟨hv, _⟩ | ⟨g', cap', cur, hv, hg, hnc, hcm, hcs, htake⟩
 · cases hv
 cases hv
 have hn : Nat.min s.size k = s.size := Nat.min_eq_left hk
 have hxn : (bcells xs).length = n := by have := hown.1; omega
 have hnews : (bcells (bts s)).length = s.size := by rw [bcells_length, bts_length]
 have hst := run_storeCells_at P g at_ e (bcells (bts s)) 0 cur w hg (by rw [hnews]; omega) (by intro u hu; rw [bcells, List.mem_map] at hu; obtain ⟨_, _, rfl⟩ := hu; rfl)
 simp only [Nat.add_zero] at hst
 have hex : ((s.extract 0 s.size).data.map fun b => Value.int .u8 (b.toNat : Int)).toList = bcells (bts s) := by
  rw [Array.toList_map, bcells]
  congr 1
  simp [ByteArray.data_extract]
 have hr : (Builtin.copy_ #[t, ts] ty #[.slice (some ⟨g, at_, none⟩) k c2, .string s]).run P w = .ok (.int .i64 (s.size : Int)) (w.setRow g (cur.toList.take at_ ++ bcells (bts s) ++ cur.toList.drop (at_ + (bcells (bts s)).length)).toArray) := by
  simp [Builtin.copy_, Builtin.lenOf, Builtin.firstCells, run_underlying ht, sizeOf, typeInfo, hi, hs, hn, goInt]
  rw [show List.take s.size (List.map (fun b : UInt8 => Value.int IntKind.u8 (b.toNat : Int)) s.data.toList) = bcells (bts s) from List.take_of_length_le (by simp), hst]
  simp
 have hover : bcells (overB xs at_ (bts s)) = (bcells xs).take at_ ++ bcells (bts s) ++ (bcells xs).drop (at_ + s.size) := by
  rw [overB, bts_length]
  simp only [bcells, List.map_append, List.map_take, List.map_drop]
 have h1 : (cur.toList.take n) = bcells xs := htake
 have hcl : cap ≤ cur.toList.length := by simpa using hcs
 refine ⟨_, hr, ⟨?_, .inr ⟨g, cap, _, rfl, setRow_heap w g cur _ e _ hg, hnc, hcm, ?_, ?_⟩⟩, ⟨rfl, rfl, rfl, by simp, fun k _ hk => setRow_other w g k _ (fun e => hk (by rw [e]))⟩⟩
 · rw [hover, List.length_append, List.length_append, List.length_take, List.length_drop, hxn, hnews]; omega
 · simp only [List.size_toArray, List.length_append, List.length_take, List.length_drop, hnews]
   omega
 · rw [hover, ← h1, hnews]
   rw [List.take_append, List.take_append, List.take_take, List.drop_take]
   rw [List.length_append, List.length_take, hnews]
   rw [List.take_of_length_le (l := bcells (bts s)) (by rw [hnews]; omega), List.take_take, show min n at_ = at_ from by omega, show min at_ n = at_ from by omega, show min at_ cur.toList.length = at_ from by omega]
end Go.Proofs.YtppdihpobokfnaaGreatDoor
set_option linter.unusedVariables false
set_option linter.unusedSimpArgs false
set_option maxRecDepth 100000
namespace Go.Proofs.YtppdihpobokfnaaGreatDoor
open Go.RowKit Go.Joins
theorem info_byte : (Tryz.prog.info? 5).map (fun i => (i.zero, i.size, i.bytes)) = some (some (.int .u8 0), 1, 1) := by kernel_rfl
theorem withD_self (R : Rp) (k : Nat) (h : ∀ b, (R.dv k).ownBlock = some b → R.L b ≠ none) : R.withD k (R.dv k) = R := by
 unfold Rp.withD
 have e1 : (fun j => if j = k then R.dv k else R.dv j) = R.dv := by
  funext j
  by_cases c : j = k
  · rw [if_pos c, c]
  · rw [if_neg c]
 have e2 : (fun b => if (R.dv k).ownBlock = some b ∧ R.L b = none then some (Lab.data k) else R.L b) = R.L := by
  funext b
  rw [if_neg (fun c => h b c.1 c.2)]
 rw [e1, e2]
set_option maxHeartbeats 8000000 in
theorem mgrow (R : Rp) (m : Md) (k : Nat) (d : Nd) (n : Nat) (w : World) (h : MdAt w R m) (hk : lookK m.nodes k = some d) (hd : d.data.length ≤ 262144) (hn : n ≤ 1000000) :
  Calls Tryz.prog 95 #[.pointer (some ⟨R.g k, 0, none⟩), .int .i64 (n : Int)] w fun e w' => e = .returned (.tuple #[]) ∧ ∃ v, Mid w R.L w' (R.withD k v) (m.set k fun x => { x with data := growB x.data n }) := by
 have hnd := h.nodes k d hk
 obtain ⟨a, cap, hdv⟩ := ownB_form hnd.bytes
 obtain ⟨e0, e1, e2, e3, e4, e5⟩ := hnd.cells
 have e6 := hnd.free (i := 3) (by omega)
 rw [hdv] at e3
 obtain ⟨i0, hi0, hz0, hz1, hz2⟩ := info_parts info_byte
 have HI := Lh (And.intro hi0 (And.intro hz0 (And.intro hz1 hz2)))
 clear hi0 hz0 hz1 hz2
 have HB := Lh hnd.bytes
 have HDV := Lh hdv
 have HK := Lh (And.intro h hk)
 have HG := Lh (show R.g k = R.g k from rfl)
 obtain ⟨g, hg⟩ : ∃ g, g = R.g k := ⟨_, rfl⟩
 have HGG := Lh hg
 rw [← hg] at e0 e1 e2 e3 e4 e5 e6 ⊢
 have HROW := Lh (show RowAt w.drew g (nodeC R k d) from by rw [hg]; exact hnd.row)
 have HNE := Lh (show (R.dv k).ownBlock ≠ some g from fun e => by have h1 := hnd.own _ e; rw [hg, hnd.lab] at h1; cases h1)
 by_cases hlt : d.data.length < n
 · have h1 : (d.data.length : Int) < (n : Int) := by omega
   have hsub : IntKind.i64.wrap ((n : Int) - (d.data.length : Int)) = ((n - d.data.length : Nat) : Int) := by rw [show (n : Int) - (d.data.length : Int) = ((n - d.data.length : Nat) : Int) from by omega]; exact IntWalk.i64_in _ (by omega)
   have HLT := Lh hlt
   have HSUB := Lh hsub
   clear hnd hdv h hk hg e0 e1 e2 e4 e5 hlt
   clear hsub
   go_enter Tryz.func95, Tryz.ntmps95
   go_wp2_with fail
   go_region_law (first | (refine step_append_zeros rfl (.tmp 15) (.tmp 22) 78 3 rfl 5 i0 Tryz.underlying78 Tryz.underlying3 HI.out.1 HI.out.2.1 HI.out.2.2.1 HI.out.2.2.2 (R.dv k) d.data.length (bcells d.data) (by rw [HDV.out]; rfl) HB.out (n - d.data.length) (by have := HLT.out; omega) (congrArg (Value.int .i64) HSUB.out) (by omega) ?_; intro v' w' hown' hg' hat'; have HQ := Lh (And.intro hown' (And.intro hg' hat')); obtain ⟨a9, c9, rfl⟩ := ownB_form hown'; have x9 := HROW.out.grown hg' HNE.out; have e3' : w'.cell? ⟨g, 3, none⟩ = some (R.dv k) := x9.cell 3 (by simp [nodeC]); have e6' := x9.frozen 3 (by simp [nodeC]); have HX9 := Lh x9; clear x9 hown' hg' hat'))
   all_goals
    clear e3' e6'
    have HS := Lh (show n = d.data.length + (n - d.data.length) from by have := HLT.out; omega)
    rw [← HS.out] at HQ
    have HO := Lh (show OwnB w' 5 (.slice a9 n c9) (growB d.data n).length (bcells (growB d.data n)) from by
     have := HQ.out.1
     rw [zc_grow _ _ HLT.out] at this
     rw [growB_len, show max d.data.length n = n from by have := HLT.out; omega]
     exact this)
    have hM := Mid.bytes (f := fun x => { x with data := growB x.data n }) HK.out.1.drew HK.out.2 rfl HO.out HQ.out.2.1 (fun b hb => by
     rcases HQ.out.2.2 with e | e
     · exact .inl (e ▸ hb)
     · rw [hb] at e
       injection e with e
       right
       rw [e]
       refine ⟨Nat.le_refl _, ?_⟩
       have := OwnB.lt HO.out hb
       rw [← e]
       exact this)
    rw [← HGG.out] at hM
    have HMH := Lh hM
    clear hM
    rw [← HS.out]
    go_end0
    exact ⟨rfl, .slice a9 n c9, ((Mid.start HK.out.1).drewN 1).then HMH.out⟩
 · have h1 : ¬ (d.data.length : Int) < (n : Int) := by omega
   have HLT := Lh (show n ≤ d.data.length from by omega)
   have hM := Mid.over (f := fun x => { x with data := growB x.data n }) HK.out.1 HK.out.2 (bs := growB d.data n) rfl (by rw [growB_same _ _ HLT.out]; exact HB.out) (World.grownBy.refl _ _)
   have HMH := Lh hM
   clear hM hnd hdv h hk hg e0 e1 e2 e4 e5 hlt
   go_enter Tryz.func95, Tryz.ntmps95
   go_wp2_with fail
   go_end0
   exact ⟨rfl, R.dv k, by rw [withD_self R k (fun b hb => by rw [(HK.out.1.nodes k d HK.out.2).own b hb]; simp)]; exact HMH.out⟩
end Go.Proofs.YtppdihpobokfnaaGreatDoor
