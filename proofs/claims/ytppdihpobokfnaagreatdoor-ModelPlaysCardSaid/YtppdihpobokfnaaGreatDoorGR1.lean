/- A part of a proof. -/
import Derived.Test.YtppdihpobokfnaaGreatDoorGPl3
import Derived.Test.YtppdihpobokfnaaGreatDoorModW4
set_option linter.unusedVariables false
set_option linter.unusedSimpArgs false
set_option maxRecDepth 100000
namespace Go.Proofs.YtppdihpobokfnaaGreatDoor
open Go.RowKit Go.Joins
def idP (id : Int) (x : RN) : Bool := (x.id : Int) == id
def fdP (fd : Int) (x : RF) : Bool := (x.f : Int) == fd
def enP (dir : Int) (s : ByteArray) (e : RE) : Bool := (e.dir : Int) == dir && e.name == bts s
def ndP (id : Int) (e : RE) : Bool := (e.node : Int) == id
set_option maxHeartbeats 4000000 in
theorem r22node (Q : Rr) (r : RM) (id : Int) (w : World) (h : DocAt w Q r) (hn : r.nodes.length ≤ 1000000) :
  Calls Tryz.prog 79 #[.pointer (some ⟨Q.b, 0, none⟩), .int .i64 id] w fun e w' => e = .returned (.int .i64 (firstAt (idP id) r.nodes)) ∧ w = w' := by
 obtain ⟨e0, e1, e2, e3, e4⟩ := h.cells
 obtain ⟨a, cap, hv⟩ := own_form5 h.nodes
 rw [hv] at e2
 have HD := Lh h
 have hbl := h.row.lt
 have hn1 : (r.nodes.length : Int) ≤ 1000000 := by omega
 clear h hn e0 e1 e3 e4
 go_enter Tryz.func79, Tryz.ntmps79
 go_wp2_with fail
 go_loopw [5] (fun jj wr => ∃ k : Nat, k ≤ r.nodes.length ∧ jj = .int .i64 k ∧ wr = w ∧ ∀ j < k, ∃ x, r.nodes[j]? = some x ∧ idP id x = false) (fun jj _ => r.nodes.length - (intOf jj).toNat)
 case atStart => exact ⟨0, by omega, rfl, rfl, fun j hj => by omega⟩
 case round =>
  obtain ⟨k, hk, rfl, rfl, hN⟩ := hrel
  have HN := Lh hN
  clear hN
  by_cases hlt : k < r.nodes.length
  · obtain ⟨x, hx⟩ : ∃ x, r.nodes[k]? = some x := ⟨_, List.getElem?_eq_getElem hlt⟩
    obtain ⟨g, cap', q, hg, c0, c1, c2, c3⟩ := HD.out.node hx
    rw [hv] at q
    injection q with q _ _
    subst q
    have h1 : (k : Int) < (r.nodes.length : Int) := by omega
    have h0 : (0 : Int) ≤ (k : Int) := by omega
    have HX := Lh hx
    clear hx hv
    cases hp : idP id x with
    | true =>
     have hq : ((x.id : Int) == id) = true := hp
     have hE := Lh (firstAt_some (p := idP id) HX.out hp HN.out)
     go_wp2_with fail
     go_ret
     exact ⟨by rw [hE.out]; rfl, rfl⟩
    | false =>
     have hq : ((x.id : Int) == id) = false := hp
     have HQ := Lh hp
     go_wp2_with fail
     go_roundw
     case rel => exact ⟨k + 1, by omega, by go_num, trivial, fun j hj => by
      by_cases e : j = k
      · subst e; exact ⟨x, HX.out, HQ.out⟩
      · exact HN.out j (by omega)⟩
     case measure => simp [intOf]; omega
  · obtain rfl : k = r.nodes.length := by omega
    have hE := Lh (firstAt_none (p := idP id) HN.out)
    go_wp2_with fail
    go_ret
    exact ⟨by rw [hE.out]; rfl, rfl⟩
set_option maxHeartbeats 4000000 in
theorem r22fd (Q : Rr) (r : RM) (fd : Int) (w : World) (h : DocAt w Q r) (hn : r.fds.length ≤ 1000000) :
  Calls Tryz.prog 65 #[.pointer (some ⟨Q.b, 0, none⟩), .int .i64 fd] w fun e w' => e = .returned (.int .i64 (firstAt (fdP fd) r.fds)) ∧ w = w' := by
 obtain ⟨e0, e1, e2, e3, e4⟩ := h.cells
 obtain ⟨a, cap, hv⟩ := own_form5 h.fds
 rw [hv] at e4
 have HD := Lh h
 have hbl := h.row.lt
 have hn1 : (r.fds.length : Int) ≤ 1000000 := by omega
 clear h hn e0 e1 e2 e3
 go_enter Tryz.func65, Tryz.ntmps65
 go_wp2_with fail
 go_loopw [5] (fun jj wr => ∃ k : Nat, k ≤ r.fds.length ∧ jj = .int .i64 k ∧ wr = w ∧ ∀ j < k, ∃ x, r.fds[j]? = some x ∧ fdP fd x = false) (fun jj _ => r.fds.length - (intOf jj).toNat)
 case atStart => exact ⟨0, by omega, rfl, rfl, fun j hj => by omega⟩
 case round =>
  obtain ⟨k, hk, rfl, rfl, hN⟩ := hrel
  have HN := Lh hN
  clear hN
  by_cases hlt : k < r.fds.length
  · obtain ⟨x, hx⟩ : ∃ x, r.fds[k]? = some x := ⟨_, List.getElem?_eq_getElem hlt⟩
    obtain ⟨g, cap', q, hg, c0, c1, c2⟩ := HD.out.fd hx
    rw [hv] at q
    injection q with q _ _
    subst q
    have h1 : (k : Int) < (r.fds.length : Int) := by omega
    have h0 : (0 : Int) ≤ (k : Int) := by omega
    have HX := Lh hx
    clear hx hv
    cases hp : fdP fd x with
    | true =>
     have hq : ((x.f : Int) == fd) = true := hp
     have hE := Lh (firstAt_some (p := fdP fd) HX.out hp HN.out)
     go_wp2_with fail
     go_ret
     exact ⟨by rw [hE.out]; rfl, rfl⟩
    | false =>
     have hq : ((x.f : Int) == fd) = false := hp
     have HQ := Lh hp
     go_wp2_with fail
     go_roundw
     case rel => exact ⟨k + 1, by omega, by go_num, trivial, fun j hj => by
      by_cases e : j = k
      · subst e; exact ⟨x, HX.out, HQ.out⟩
      · exact HN.out j (by omega)⟩
     case measure => simp [intOf]; omega
  · obtain rfl : k = r.fds.length := by omega
    have hE := Lh (firstAt_none (p := fdP fd) HN.out)
    go_wp2_with fail
    go_ret
    exact ⟨by rw [hE.out]; rfl, rfl⟩
set_option maxHeartbeats 4000000 in
theorem r22entry (Q : Rr) (r : RM) (dir : Int) (s : ByteArray) (w : World) (h : DocAt w Q r) (hn : r.ents.length ≤ 1000000) :
  Calls Tryz.prog 116 #[.pointer (some ⟨Q.b, 0, none⟩), .int .i64 dir, .string s] w fun e w' => e = .returned (.int .i64 (firstAt (enP dir s) r.ents)) ∧ w = w' := by
 obtain ⟨e0, e1, e2, e3, e4⟩ := h.cells
 obtain ⟨a, cap, hv⟩ := own_form5 h.ents
 rw [hv] at e3
 have HD := Lh h
 have hbl := h.row.lt
 have hn1 : (r.ents.length : Int) ≤ 1000000 := by omega
 clear h hn e0 e1 e2 e4
 go_enter Tryz.func116, Tryz.ntmps116
 go_wp2_with fail
 go_loopw [7] (fun jj wr => ∃ k : Nat, k ≤ r.ents.length ∧ jj = .int .i64 k ∧ wr = w ∧ ∀ j < k, ∃ x, r.ents[j]? = some x ∧ enP dir s x = false) (fun jj _ => r.ents.length - (intOf jj).toNat)
 case atStart => exact ⟨0, by omega, rfl, rfl, fun j hj => by omega⟩
 case round =>
  obtain ⟨k, hk, rfl, rfl, hN⟩ := hrel
  have HN := Lh hN
  clear hN
  by_cases hlt : k < r.ents.length
  · obtain ⟨x, hx⟩ : ∃ x, r.ents[k]? = some x := ⟨_, List.getElem?_eq_getElem hlt⟩
    obtain ⟨g, cap', q, hg, c0, c1, c2⟩ := HD.out.ent hx
    rw [hv] at q
    injection q with q _ _
    subst q
    have h1 : (k : Int) < (r.ents.length : Int) := by omega
    have h0 : (0 : Int) ≤ (k : Int) := by omega
    have HX := Lh hx
    clear hx hv
    by_cases hd : (x.dir : Int) = dir
    · have hd1 : ((x.dir : Int) == dir) = true := by simpa using hd
      have hd2 : decide ((x.dir : Int) = dir) = true := by simpa using hd
      cases hp : enP dir s x with
      | true =>
       have hs : tx x.name = s := by
        have h5 : (x.name == bts s) = true := by simpa [enP, hd1] using hp
        rw [beq_iff_eq] at h5
        rw [h5]; exact bts_ext (tx_bts (bts s))
       rw [hs] at c1
       have hE := Lh (firstAt_some (p := enP dir s) HX.out hp HN.out)
       clear hp
       go_wp2_with fail
       go_ret
       exact ⟨by rw [hE.out]; rfl, rfl⟩
      | false =>
       obtain ⟨t1, t2⟩ : ¬ (tx x.name).toList = s.toList ∧ ((tx x.name).toList == s.toList) = false := by
        have h5 : (x.name == bts s) = false := by simpa [enP, hd1] using hp
        rw [beq_eq_false_iff_ne] at h5
        have h6 : ¬ (tx x.name).toList = s.toList := fun e => h5 (by
         have e1 : (tx x.name).toList = bts (tx x.name) := Lib.toList_data _
         have e2 : s.toList = bts s := Lib.toList_data _
         rw [e1, e2, tx_bts] at e
         exact e)
        exact ⟨h6, by simpa using h6⟩
       have HQ := Lh hp
       clear hp
       go_wp2_with fail
       go_roundw
       case rel => exact ⟨k + 1, by omega, by go_num, trivial, fun j hj => by
        by_cases e : j = k
        · subst e; exact ⟨x, HX.out, HQ.out⟩
        · exact HN.out j (by omega)⟩
       case measure => simp [intOf]; omega
    · have hd1 : ((x.dir : Int) == dir) = false := by simpa using hd
      have hd2 : decide ((x.dir : Int) = dir) = false := by simpa using hd
      have HQ : Hid (enP dir s x = false) := by show (_ && _) = false; rw [hd1]; rfl
      go_wp2_with fail
      go_roundw
      case rel => exact ⟨k + 1, by omega, by go_num, trivial, fun j hj => by
       by_cases e : j = k
       · subst e; exact ⟨x, HX.out, HQ.out⟩
       · exact HN.out j (by omega)⟩
      case measure => simp [intOf]; omega
  · obtain rfl : k = r.ents.length := by omega
    have hE := Lh (firstAt_none (p := enP dir s) HN.out)
    go_wp2_with fail
    go_ret
    exact ⟨by rw [hE.out]; rfl, rfl⟩
end Go.Proofs.YtppdihpobokfnaaGreatDoor
set_option linter.unusedVariables false
set_option linter.unusedSimpArgs false
set_option maxRecDepth 100000
namespace Go.Proofs.YtppdihpobokfnaaGreatDoor
open Go.RowKit Go.Joins
theorem find22_at {α : Type} {p : α → Bool} {l : List α} {k : Nat} {x : α} (hx : l[k]? = some x) (he : p x = true) (h : ∀ j < k, ∃ x, l[j]? = some x ∧ p x = false) : l.find? p = some x := by
 obtain ⟨hk, e⟩ := List.getElem?_eq_some_iff.1 hx
 rw [List.find?_eq_some_iff_getElem]
 refine ⟨he, k, hk, e, fun j hj => ?_⟩
 obtain ⟨y, h1, h2⟩ := h j hj
 rw [List.getElem?_eq_getElem (by omega)] at h1
 injection h1 with h1
 rw [h1, h2]; rfl
theorem find22_no {α : Type} {p : α → Bool} {l : List α} (h : ∀ j < l.length, ∃ x, l[j]? = some x ∧ p x = false) : l.find? p = none := by
 rw [List.find?_eq_none]
 intro x hx
 obtain ⟨j, hj, e⟩ := List.getElem_of_mem hx
 obtain ⟨y, h1, h2⟩ := h j hj
 rw [List.getElem?_eq_getElem hj, e] at h1
 injection h1 with h1
 rw [h1, h2]; simp
theorem ndP_nat (id : Nat) : ndP (id : Int) = fun e : RE => e.node == id := by
 funext e
 show ((e.node : Int) == (id : Int)) = (e.node == id)
 rw [Bool.eq_iff_iff, beq_iff_eq, beq_iff_eq]; omega
theorem par_at {r : RM} {id k : Nat} {x : RE} (hx : r.ents[k]? = some x) (he : ndP (id : Int) x = true) (h : ∀ j < k, ∃ x, r.ents[j]? = some x ∧ ndP (id : Int) x = false) : r.par id = x.dir := by
 unfold RM.par
 rw [← ndP_nat, find22_at hx he h]
theorem par_no {r : RM} {id : Nat} (h : ∀ j < r.ents.length, ∃ x, r.ents[j]? = some x ∧ ndP (id : Int) x = false) : r.par id = 0 := by
 unfold RM.par
 rw [← ndP_nat, find22_no h]
theorem countP_step {α : Type} (p : α → Bool) {l : List α} {k : Nat} {x : α} (hx : l[k]? = some x) : (l.take (k + 1)).countP p = (l.take k).countP p + (if p x = true then 1 else 0) := by
 rw [List.take_add_one, hx, List.countP_append]
 simp [List.countP_cons]
theorem nd_at {r : RM} {id : Nat} {x : RN} (h : r.nd id = some x) : ∃ i : Nat, r.nodes[i]? = some x ∧ firstAt (idP (id : Int)) r.nodes = (i : Int) ∧ x.id = id := by
 have e : (fun n : RN => n.id == id) = idP (id : Int) := by
  funext n
  show (n.id == id) = ((n.id : Int) == (id : Int))
  rw [Bool.eq_iff_iff, beq_iff_eq, beq_iff_eq]; omega
 unfold RM.nd at h
 have hid := List.find?_some h
 rw [e] at h
 rcases first_find (idP (id : Int)) r.nodes with ⟨_, q⟩ | ⟨i, y, e1, e2, _, e3, _⟩
 · rw [q] at h; cases h
 · rw [e3] at h; cases h
   exact ⟨i, e2, e1, by simpa using hid⟩
theorem kind_nd {r : RM} {id : Nat} {x : RN} (h : r.nd id = some x) : r.kind id = x.kind := by unfold RM.kind; rw [h]
set_option maxHeartbeats 4000000 in
theorem r22kind (Q : Rr) (r : RM) (id : Nat) (x : RN) (w : World) (h : DocAt w Q r) (hn : r.nodes.length ≤ 1000000) (hx : r.nd id = some x) :
  Calls Tryz.prog 109 #[.pointer (some ⟨Q.b, 0, none⟩), .int .i64 (id : Int)] w fun e w' => e = .returned (.int .i64 (r.kind id)) ∧ ∃ m, w' = w.drewN m := by
 rw [kind_nd hx]
 obtain ⟨i, hi, hf, _⟩ := nd_at hx
 obtain ⟨e0, e1, e2, e3, e4⟩ := h.cells
 obtain ⟨g, cap', q, hg, c0, c1, c2, c3⟩ := h.node hi
 rw [q] at e2
 have HN := Lh (fun W (hW : DocAt W Q r) => r22node Q r id W hW hn)
 have HD := Lh h
 have hbl := h.row.lt
 have hlt := (List.getElem?_eq_some_iff.1 hi).1
 have h1 : (i : Int) < (r.nodes.length : Int) := by omega
 have h0 : (0 : Int) ≤ (i : Int) := by omega
 rw [hf] at HN
 clear h hn hx hi hf q e0 e1 e3 e4 c0 c2 c3 hlt
 go_enter Tryz.func109, Tryz.ntmps109
 go_wp2_with fail
 go_quiet ((go_at_call 79; exact (HN.out _ (HD.out.drewN _)).mono fun _ _ h => ⟨h.1, _, h.2.symm⟩))
 go_wp2_with fail
 go_ret
 exact ⟨rfl, _, rfl⟩
set_option maxHeartbeats 4000000 in
theorem r22parent (Q : Rr) (r : RM) (id : Nat) (w : World) (h : DocAt w Q r) (hn : r.ents.length ≤ 1000000) :
  Calls Tryz.prog 135 #[.pointer (some ⟨Q.b, 0, none⟩), .int .i64 (id : Int)] w fun e w' => e = .returned (.int .i64 (r.par id : Int)) ∧ w = w' := by
 obtain ⟨e0, e1, e2, e3, e4⟩ := h.cells
 obtain ⟨a, cap, hv⟩ := own_form5 h.ents
 rw [hv] at e3
 have HD := Lh h
 have hbl := h.row.lt
 have hn1 : (r.ents.length : Int) ≤ 1000000 := by omega
 clear h hn e0 e1 e2 e4
 go_enter Tryz.func135, Tryz.ntmps135
 go_wp2_with fail
 go_loopw [5] (fun jj wr => ∃ k : Nat, k ≤ r.ents.length ∧ jj = .int .i64 k ∧ wr = w ∧ ∀ j < k, ∃ x, r.ents[j]? = some x ∧ ndP (id : Int) x = false) (fun jj _ => r.ents.length - (intOf jj).toNat)
 case atStart => exact ⟨0, by omega, rfl, rfl, fun j hj => by omega⟩
 case round =>
  obtain ⟨k, hk, rfl, rfl, hN⟩ := hrel
  have HN := Lh hN
  clear hN
  by_cases hlt : k < r.ents.length
  · obtain ⟨x, hx⟩ : ∃ x, r.ents[k]? = some x := ⟨_, List.getElem?_eq_getElem hlt⟩
    obtain ⟨g, cap', q, hg, c0, c1, c2⟩ := HD.out.ent hx
    rw [hv] at q
    injection q with q _ _
    subst q
    have h1 : (k : Int) < (r.ents.length : Int) := by omega
    have h0 : (0 : Int) ≤ (k : Int) := by omega
    have HX := Lh hx
    clear hx hv
    cases hp : ndP (id : Int) x with
    | true =>
     have hq : ((x.node : Int) == (id : Int)) = true := hp
     have hE := Lh (par_at HX.out hp HN.out)
     go_wp2_with fail
     go_ret
     exact ⟨by rw [hE.out]; rfl, rfl⟩
    | false =>
     have hq : ((x.node : Int) == (id : Int)) = false := hp
     have HQ := Lh hp
     go_wp2_with fail
     go_roundw
     case rel => exact ⟨k + 1, by omega, by go_num, trivial, fun j hj => by
      by_cases e : j = k
      · subst e; exact ⟨x, HX.out, HQ.out⟩
      · exact HN.out j (by omega)⟩
     case measure => simp [intOf] <;> omega
  · obtain rfl : k = r.ents.length := by omega
    have hE := Lh (par_no HN.out)
    go_wp2_with fail
    go_ret
    exact ⟨by rw [hE.out]; rfl, rfl⟩
def lkN (id : Int) (e : RE) : Bool := (e.node : Int) == id
def lkD (r : RM) (id : Int) (e : RE) : Bool := (e.dir : Int) == id && r.kind e.node == 2
theorem links_is (r : RM) (id : Nat) : r.links id = if r.kind id = 1 then (((r.ents.take r.ents.length).countP (lkN id) : Nat) : Int) else 2 + (((r.ents.take r.ents.length).countP (lkD r id) : Nat) : Int) := by
 unfold RM.links
 have e1 : (fun e : RE => e.node == id) = lkN (id : Int) := (ndP_nat id).symm
 have e2 : (fun e : RE => e.dir == id && r.kind e.node == 2) = lkD r (id : Int) := by
  funext e
  show (e.dir == id && r.kind e.node == 2) = (((e.dir : Int) == (id : Int)) && r.kind e.node == 2)
  congr 1
  rw [Bool.eq_iff_iff, beq_iff_eq, beq_iff_eq]; omega
 rw [e1, e2, List.take_length]
set_option maxHeartbeats 8000000 in
theorem r22links (Q : Rr) (r : RM) (id : Nat) (xi : RN) (w : World) (h : DocAt w Q r) (hn : r.nodes.length ≤ 1000000) (hm : r.ents.length ≤ 1000000) (hx : r.nd id = some xi) (hk : ∀ e ∈ r.ents, ∃ x, r.nd e.node = some x) :
  Calls Tryz.prog 112 #[.pointer (some ⟨Q.b, 0, none⟩), .int .i64 (id : Int)] w fun e w' => e = .returned (.int .i64 (r.links id)) ∧ ∃ m, w' = w.drewN m := by
 have HK := Lh (fun W (hW : DocAt W Q r) => r22kind Q r id xi W hW hn hx)
 have HE := Lh (fun W (hW : DocAt W Q r) (e : RE) (he : e ∈ r.ents) => let ⟨x, hx⟩ := hk e he; r22kind Q r e.node x W hW hn hx)
 have HL := Lh (links_is r id)
 obtain ⟨e0, e1, e2, e3, e4⟩ := h.cells
 obtain ⟨a, cap, hv⟩ := own_form5 h.ents
 rw [hv] at e3
 have HD := Lh h
 have hbl := h.row.lt
 have hn1 : (r.ents.length : Int) ≤ 1000000 := by omega
 clear h hn e0 e1 e2 e4 hx hk hm
 go_enter Tryz.func112, Tryz.ntmps112
 go_wp2_with fail
 go_loopw [5, 6, 7] (fun nn dd jj wr => ∃ k : Nat, k ≤ r.ents.length ∧ nn = .int .i64 ((r.ents.take k).countP (lkN id) : Nat) ∧ dd = .int .i64 ((r.ents.take k).countP (lkD r id) : Nat) ∧ jj = .int .i64 k ∧ ∃ m, wr = w.drewN m) (fun _ _ jj _ => r.ents.length - (intOf jj).toNat)
 case atStart => exact ⟨0, by omega, rfl, rfl, rfl, 0, rfl⟩
 case round =>
  obtain ⟨k, hk, rfl, rfl, rfl, m, rfl⟩ := hrel
  have HC := Lh (And.intro (List.countP_le_length (p := lkN (id : Int)) (l := r.ents.take k)) (List.countP_le_length (p := lkD r (id : Int)) (l := r.ents.take k)))
  have hc1 : (((r.ents.take k).countP (lkN id) : Nat) : Int) ≤ 1000000 := by have := HC.out.1; rw [List.length_take] at this; omega
  have hc2 : (((r.ents.take k).countP (lkD r id) : Nat) : Int) ≤ 1000000 := by have := HC.out.2; rw [List.length_take] at this; omega
  by_cases hlt : k < r.ents.length
  · obtain ⟨x, hx⟩ : ∃ x, r.ents[k]? = some x := ⟨_, List.getElem?_eq_getElem hlt⟩
    obtain ⟨g, cap', q, hg, c0, c1, c2⟩ := HD.out.ent hx
    rw [hv] at q
    injection q with q _ _
    subst q
    have h1 : (k : Int) < (r.ents.length : Int) := by omega
    have h0 : (0 : Int) ≤ (k : Int) := by omega
    have HS1 := Lh (countP_step (lkN (id : Int)) hx)
    have HS2 := Lh (countP_step (lkD r (id : Int)) hx)
    have HM := Lh (List.mem_of_getElem? hx)
    have HKx := Lh (fun W hW => HE.out W hW x HM.out)
    clear hx hv
    by_cases p1 : (x.node : Int) = (id : Int)
    · have q1 : ((x.node : Int) == (id : Int)) = true := by simpa using p1
      have HA : Hid ((r.ents.take (k + 1)).countP (lkN id) = (r.ents.take k).countP (lkN id) + 1) := by show _ = _; rw [HS1.out, if_pos (show lkN id x = true from q1)]
      clear p1
      by_cases p2 : (x.dir : Int) = (id : Int)
      · have q2 : ((x.dir : Int) == (id : Int)) = true := by simpa using p2
        have q3 : decide ((x.dir : Int) = (id : Int)) = true := by simpa using p2
        by_cases p4 : r.kind x.node = 2
        · have q4 : (r.kind x.node == 2) = true := by simpa using p4
          have q5 : decide (r.kind x.node = 2) = true := by simpa using p4
          have HB : Hid ((r.ents.take (k + 1)).countP (lkD r id) = (r.ents.take k).countP (lkD r id) + 1) := by show _ = _; rw [HS2.out, if_pos (show lkD r id x = true by show (_ && _) = true; rw [q2, q4]; rfl)]
          clear p2 p4
          go_wp2_with fail
          refine (HKx.out _ (HD.out.drewN _)).mono ?_
          rintro e w9 ⟨rfl, m9, rfl⟩
          go_wp2_with fail
          go_roundw
          case rel => exact ⟨k + 1, by omega, by rw [HA.out] <;> go_num, by rw [HB.out] <;> go_num, by go_num, m + m9, by first | rfl | rw [World.drewN_drewN]⟩
          case measure => simp [intOf] <;> omega
        · have q4 : (r.kind x.node == 2) = false := by simpa using p4
          have q5 : decide (r.kind x.node = 2) = false := by simpa using p4
          have HB : Hid ((r.ents.take (k + 1)).countP (lkD r id) = (r.ents.take k).countP (lkD r id)) := by show _ = _; rw [HS2.out, if_neg (show ¬ lkD r id x = true by show ¬ (_ && _) = true; rw [q2, q4]; simp)]; rfl
          clear p2 p4
          go_wp2_with fail
          refine (HKx.out _ (HD.out.drewN _)).mono ?_
          rintro e w9 ⟨rfl, m9, rfl⟩
          go_wp2_with fail
          go_roundw
          case rel => exact ⟨k + 1, by omega, by rw [HA.out] <;> go_num, by rw [HB.out], by go_num, m + m9, by first | rfl | rw [World.drewN_drewN]⟩
          case measure => simp [intOf] <;> omega
      · have q2 : ((x.dir : Int) == (id : Int)) = false := by simpa using p2
        have q3 : decide ((x.dir : Int) = (id : Int)) = false := by simpa using p2
        have HB : Hid ((r.ents.take (k + 1)).countP (lkD r id) = (r.ents.take k).countP (lkD r id)) := by show _ = _; rw [HS2.out, if_neg (show ¬ lkD r id x = true by show ¬ (_ && _) = true; rw [q2]; simp)]; rfl
        go_wp2_with fail
        go_roundw
        case rel => exact ⟨k + 1, by omega, by rw [HA.out] <;> go_num, by rw [HB.out], by go_num, m, rfl⟩
        case measure => simp [intOf] <;> omega
    · have q1 : ((x.node : Int) == (id : Int)) = false := by simpa using p1
      have HA : Hid ((r.ents.take (k + 1)).countP (lkN id) = (r.ents.take k).countP (lkN id)) := by show _ = _; rw [HS1.out, if_neg (show ¬ lkN id x = true by show ¬ ((x.node : Int) == (id : Int)) = true; rw [q1]; simp)]; rfl
      clear p1
      by_cases p2 : (x.dir : Int) = (id : Int)
      · have q2 : ((x.dir : Int) == (id : Int)) = true := by simpa using p2
        have q3 : decide ((x.dir : Int) = (id : Int)) = true := by simpa using p2
        by_cases p4 : r.kind x.node = 2
        · have q4 : (r.kind x.node == 2) = true := by simpa using p4
          have q5 : decide (r.kind x.node = 2) = true := by simpa using p4
          have HB : Hid ((r.ents.take (k + 1)).countP (lkD r id) = (r.ents.take k).countP (lkD r id) + 1) := by show _ = _; rw [HS2.out, if_pos (show lkD r id x = true by show (_ && _) = true; rw [q2, q4]; rfl)]
          clear p2 p4
          go_wp2_with fail
          refine (HKx.out _ (HD.out.drewN _)).mono ?_
          rintro e w9 ⟨rfl, m9, rfl⟩
          go_wp2_with fail
          go_roundw
          case rel => exact ⟨k + 1, by omega, by rw [HA.out] <;> go_num, by rw [HB.out] <;> go_num, by go_num, m + m9, by first | rfl | rw [World.drewN_drewN]⟩
          case measure => simp [intOf] <;> omega
        · have q4 : (r.kind x.node == 2) = false := by simpa using p4
          have q5 : decide (r.kind x.node = 2) = false := by simpa using p4
          have HB : Hid ((r.ents.take (k + 1)).countP (lkD r id) = (r.ents.take k).countP (lkD r id)) := by show _ = _; rw [HS2.out, if_neg (show ¬ lkD r id x = true by show ¬ (_ && _) = true; rw [q2, q4]; simp)]; rfl
          clear p2 p4
          go_wp2_with fail
          refine (HKx.out _ (HD.out.drewN _)).mono ?_
          rintro e w9 ⟨rfl, m9, rfl⟩
          go_wp2_with fail
          go_roundw
          case rel => exact ⟨k + 1, by omega, by rw [HA.out] <;> go_num, by rw [HB.out], by go_num, m + m9, by first | rfl | rw [World.drewN_drewN]⟩
          case measure => simp [intOf] <;> omega
      · have q2 : ((x.dir : Int) == (id : Int)) = false := by simpa using p2
        have q3 : decide ((x.dir : Int) = (id : Int)) = false := by simpa using p2
        have HB : Hid ((r.ents.take (k + 1)).countP (lkD r id) = (r.ents.take k).countP (lkD r id)) := by show _ = _; rw [HS2.out, if_neg (show ¬ lkD r id x = true by show ¬ (_ && _) = true; rw [q2]; simp)]; rfl
        go_wp2_with fail
        go_roundw
        case rel => exact ⟨k + 1, by omega, by rw [HA.out] <;> go_num, by rw [HB.out], by go_num, m, rfl⟩
        case measure => simp [intOf] <;> omega
  · obtain rfl : k = r.ents.length := by omega
    have hc4 : ((r.ents.countP (lkD r id) : Nat) : Int) ≤ 1000000 := by have := hc2; rwa [List.take_length] at this
    have hc5 : (0 : Int) ≤ ((r.ents.countP (lkD r id) : Nat) : Int) := by omega
    go_wp2_with fail
    refine (HK.out _ (HD.out.drewN _)).mono ?_
    rintro e w1 ⟨rfl, m1, rfl⟩
    by_cases p1 : r.kind id = 1
    · have q1 : (r.kind id == 1) = true := by simpa using p1
      have HR : Hid (r.links id = (((r.ents.take r.ents.length).countP (lkN id) : Nat) : Int)) := by show _ = _; rw [HL.out, if_pos p1]
      go_wp2_with fail
      go_ret
      exact ⟨by rw [HR.out]; simp, m + m1, by first | rfl | rw [World.drewN_drewN]⟩
    · have q1 : (r.kind id == 1) = false := by simpa using p1
      have HR : Hid (r.links id = 2 + (((r.ents.take r.ents.length).countP (lkD r id) : Nat) : Int)) := by show _ = _; rw [HL.out, if_neg p1]
      go_wp2_with fail
      go_ret
      exact ⟨by rw [HR.out]; simp, m + m1, by first | rfl | rw [World.drewN_drewN]⟩
end Go.Proofs.YtppdihpobokfnaaGreatDoor
set_option linter.unusedVariables false
set_option linter.unusedSimpArgs false
set_option maxRecDepth 100000
namespace Go.Proofs.YtppdihpobokfnaaGreatDoor
open Go.RowKit Go.Joins
def szP (id : Int) (e : RE) : Bool := (e.dir : Int) == id
theorem size_is (r : RM) (id : Nat) : r.size id = if r.kind id = 1 then ((r.data id).length : Int) else (((r.ents.take r.ents.length).countP (szP id) : Nat) : Int) := by
 unfold RM.size
 have e2 : (fun e : RE => e.dir == id) = szP (id : Int) := by
  funext e
  show (e.dir == id) = ((e.dir : Int) == (id : Int))
  rw [Bool.eq_iff_iff, beq_iff_eq, beq_iff_eq]; omega
 rw [e2, List.take_length]
set_option maxHeartbeats 8000000 in
theorem r22size (Q : Rr) (r : RM) (id : Nat) (x : RN) (w : World) (h : DocAt w Q r) (hn : r.nodes.length ≤ 1000000) (hm : r.ents.length ≤ 1000000) (hx : r.nd id = some x) :
  Calls Tryz.prog 80 #[.pointer (some ⟨Q.b, 0, none⟩), .int .i64 (id : Int)] w fun e w' => e = .returned (.int .i64 (r.size id)) ∧ ∃ m, w' = w.drewN m := by
 have HK := Lh (fun W (hW : DocAt W Q r) => r22kind Q r id x W hW hn hx)
 have HL := Lh (size_is r id)
 have hda : r.data id = x.data := by unfold RM.data; rw [hx]
 obtain ⟨i, hi, hf, _⟩ := nd_at hx
 obtain ⟨e0, e1, e2, e3, e4⟩ := h.cells
 obtain ⟨gn, capn, q, hg, c0, c1, c2, c3⟩ := h.node hi
 rw [q] at e2
 have HN := Lh (fun W (hW : DocAt W Q r) => r22node Q r id W hW hn)
 rw [hf] at HN
 have hlt := (List.getElem?_eq_some_iff.1 hi).1
 have h1 : (i : Int) < (r.nodes.length : Int) := by omega
 have h0 : (0 : Int) ≤ (i : Int) := by omega
 have hsz : ((tx x.data).size : Int) = (x.data.length : Int) := by rw [tx_size]
 obtain ⟨a, cap, hv⟩ := own_form5 h.ents
 rw [hv] at e3
 have HD := Lh h
 have hbl := h.row.lt
 have hn1 : (r.ents.length : Int) ≤ 1000000 := by omega
 rw [hda] at HL
 clear h hn e0 e1 e4 hx hm hi hf q c0 c1 c2 hlt hda
 go_enter Tryz.func80, Tryz.ntmps80
 go_wp2_with fail
 refine (HK.out _ HD.out).mono ?_
 rintro e w1 ⟨rfl, m1, hw1⟩
 have HM := Lh hw1
 have HD1 : Hid (DocAt w1 Q r) := by rw [hw1]; exact HD.out.drewN m1
 have e2 : w1.cell? ⟨Q.b, 2, none⟩ = some (.slice (some ⟨gn, 0, none⟩) r.nodes.length capn) := by rw [hw1]; exact e2
 have e3 : w1.cell? ⟨Q.b, 3, none⟩ = some (.slice a r.ents.length cap) := by rw [hw1]; exact e3
 have c3 : w1.cell? ⟨gn, i * 4 + 3, none⟩ = some (.string (tx x.data)) := by rw [hw1]; exact c3
 have hbl : Q.b < w1.heap.size := by rw [hw1]; exact hbl
 clear hw1
 by_cases p1 : r.kind id = 1
 · have q1 : (r.kind id == 1) = true := by simpa using p1
   have HR : Hid (r.size id = (x.data.length : Int)) := by show _ = _; rw [HL.out, if_pos p1]
   go_wp2_with fail
   go_quiet ((go_at_call 79; exact (HN.out _ (HD1.out.drewN _)).mono fun _ _ h => ⟨h.1, _, h.2.symm⟩))
   go_wp2_with fail
   go_ret
   exact ⟨by rw [HR.out, ← hsz]; rfl, m1 + nq, by rw [HM.out, World.drewN_drewN]⟩
 · have q1 : (r.kind id == 1) = false := by simpa using p1
   have HR : Hid (r.size id = (((r.ents.take r.ents.length).countP (szP id) : Nat) : Int)) := by show _ = _; rw [HL.out, if_neg p1]
   clear e2 c3 h1 h0 hsz hg
   go_wp2_with fail
   go_loopw [5, 6] (fun nn jj wr => ∃ k : Nat, k ≤ r.ents.length ∧ nn = .int .i64 ((r.ents.take k).countP (szP id) : Nat) ∧ jj = .int .i64 k ∧ wr = w1) (fun _ jj _ => r.ents.length - (intOf jj).toNat)
   case atStart => exact ⟨0, by omega, rfl, rfl, rfl⟩
   case round =>
    obtain ⟨k, hk, rfl, rfl, rfl⟩ := hrel
    have HC := Lh (List.countP_le_length (p := szP (id : Int)) (l := r.ents.take k))
    have hc1 : (((r.ents.take k).countP (szP id) : Nat) : Int) ≤ 1000000 := by have := HC.out; rw [List.length_take] at this; omega
    by_cases hlt : k < r.ents.length
    · obtain ⟨x, hx⟩ : ∃ x, r.ents[k]? = some x := ⟨_, List.getElem?_eq_getElem hlt⟩
      obtain ⟨g, cap', q, hg, c0, c1, c2⟩ := HD1.out.ent hx
      rw [hv] at q
      injection q with q _ _
      subst q
      have h1 : (k : Int) < (r.ents.length : Int) := by omega
      have h0 : (0 : Int) ≤ (k : Int) := by omega
      have HS1 := Lh (countP_step (szP (id : Int)) hx)
      clear hx hv
      by_cases p2 : (x.dir : Int) = (id : Int)
      · have q2 : ((x.dir : Int) == (id : Int)) = true := by simpa using p2
        have HA : Hid ((r.ents.take (k + 1)).countP (szP id) = (r.ents.take k).countP (szP id) + 1) := by show _ = _; rw [HS1.out, if_pos (show szP id x = true from q2)]
        go_wp2_with fail
        go_roundw
        case rel => exact ⟨k + 1, by omega, by rw [HA.out] <;> go_num, by go_num, trivial⟩
        case measure => simp [intOf] <;> omega
      · have q2 : ((x.dir : Int) == (id : Int)) = false := by simpa using p2
        have HA : Hid ((r.ents.take (k + 1)).countP (szP id) = (r.ents.take k).countP (szP id)) := by show _ = _; rw [HS1.out, if_neg (show ¬ szP id x = true by show ¬ ((x.dir : Int) == (id : Int)) = true; rw [q2]; simp)]; rfl
        go_wp2_with fail
        go_roundw
        case rel => exact ⟨k + 1, by omega, by rw [HA.out], by go_num, trivial⟩
        case measure => simp [intOf] <;> omega
    · obtain rfl : k = r.ents.length := by omega
      go_wp2_with fail
      go_ret
      exact ⟨by rw [HR.out]; simp, m1, HM.out⟩
end Go.Proofs.YtppdihpobokfnaaGreatDoor
set_option linter.unusedVariables false
set_option linter.unusedSimpArgs false
set_option maxRecDepth 100000
namespace Go.Proofs.YtppdihpobokfnaaGreatDoor
open Go.RowKit Go.Joins
theorem enP_fun (dir : Nat) (s : ByteArray) : enP (dir : Int) s = fun e : RE => e.dir == dir && e.name == bts s := by
 funext e
 show ((e.dir : Int) == (dir : Int) && e.name == bts s) = (e.dir == dir && e.name == bts s)
 congr 1
 rw [Bool.eq_iff_iff, beq_iff_eq, beq_iff_eq]; omega
theorem ent_first (r : RM) (dir : Nat) (s : ByteArray) : (firstAt (enP (dir : Int) s) r.ents = -1 ∧ r.ent dir (bts s) = none) ∨ ∃ (i : Nat) (x : RE), firstAt (enP (dir : Int) s) r.ents = i ∧ r.ents[i]? = some x ∧ r.ent dir (bts s) = some x := by
 unfold RM.ent
 rw [← enP_fun]
 rcases first_find (enP (dir : Int) s) r.ents with h | ⟨i, x, h1, h2, _, h3, _⟩
 · exact .inl h
 · exact .inr ⟨i, x, h1, h2, h3⟩
theorem RFull.par {r : RM} (h : RFull r) (k : Nat) : ∃ x, r.nd (r.par k) = some x := by
 unfold RM.par
 cases hf : r.ents.find? (fun e => e.node == k) with
 | none => obtain ⟨x, hx, _⟩ := h.root; exact ⟨x, hx⟩
 | some e => obtain ⟨x, hx, _⟩ := h.edir e (List.mem_of_find?_eq_some hf); exact ⟨x, hx⟩
theorem leadR_there {r : RM} (h : RFull r) : ∀ (ps : List Bs) (k : Nat), (∃ x, r.nd k = some x) → ∃ x, r.nd (leadR r k ps).1 = some x
 | [], k, hk => hk
 | p :: ps, k, hk => by
  have h0 : ∃ x, r.nd 0 = some x := by obtain ⟨x, hx, _⟩ := h.root; exact ⟨x, hx⟩
  rw [leadR]
  split
  · exact h0
  · split
    · exact leadR_there h ps k hk
    · split
      · exact leadR_there h ps _ (h.par k)
      · split
        · exact h0
        · next e he => exact leadR_there h ps _ (h.enode e (List.mem_of_find?_eq_some he))
set_option maxHeartbeats 8000000 in
theorem r22lead (Q : Rr) (r : RM) (a : Option Addr) (cap : Nat) (l : List ByteArray) (w : World) (h : DocAt w Q r) (hF : RFull r) (hV : ValS w a (strs l)) (hl : l.length ≤ 1000000) :
  Calls Tryz.prog 134 #[.pointer (some ⟨Q.b, 0, none⟩), .slice a l.length cap] w fun e w' => e = .returned (.tuple #[.int .i64 ((leadR r 0 (l.map bts)).1 : Int), .int .i64 (leadR r 0 (l.map bts)).2]) ∧ ∃ m, w' = w.drewN m := by
 have HK : Hid (∀ (k : Nat), (∃ x, r.nd k = some x) → ∀ W, DocAt W Q r → Calls Tryz.prog 109 #[.pointer (some ⟨Q.b, 0, none⟩), .int .i64 (k : Int)] W fun e w' => e = .returned (.int .i64 (r.kind k)) ∧ ∃ m, w' = W.drewN m) := Lh (fun k hk W hW => by obtain ⟨x, hx⟩ := hk; exact r22kind Q r k x W hW hF.nodes hx)
 have HP := Lh (fun k W (hW : DocAt W Q r) => r22parent Q r k W hW hF.ents)
 have HE := Lh (fun (d : Nat) s W (hW : DocAt W Q r) => r22entry Q r d s W hW hF.ents)
 have HF := Lh hF
 have HD := Lh h
 have HV := Lh hV
 obtain ⟨e0, e1, e2, e3, e4⟩ := h.cells
 obtain ⟨ae, cape, hv⟩ := own_form5 h.ents
 have HVE := Lh hv
 rw [hv] at e3
 have hbl := h.row.lt
 have hl' : (l.length : Int) ≤ 1000000 := by omega
 clear h hF hV e0 e1 e2 e4 hl hv
 go_enter Tryz.func134, Tryz.ntmps134
 go_wp2_with fail
 go_loopw [6, 7] (fun aa jj ww => ∃ (i k : Nat), i ≤ l.length ∧ jj = .int .i64 (i : Int) ∧ aa = .int .i64 (k : Int) ∧ Hid ((∃ x, r.nd k = some x) ∧ leadR r 0 (l.map bts) = leadR r k ((l.drop i).map bts)) ∧ ∃ m, ww = w.drewN m) (fun _ jj _ => l.length - (intOf jj).toNat)
 case atStart => exact ⟨0, 0, by omega, rfl, rfl, Lh ⟨by obtain ⟨x, hx, _⟩ := HF.out.root; exact ⟨x, hx⟩, by simp⟩, 0, rfl⟩
 case round =>
  obtain ⟨i, k, hi, rfl, rfl, HW, m, rfl⟩ := hrel
  by_cases hlt : i < l.length
  · obtain ⟨x, hx⟩ : ∃ x, l[i]? = some x := ⟨_, List.getElem?_eq_getElem hlt⟩
    obtain ⟨Pb, o, rfl, hPb, hcell⟩ := str_cell HV.out hx
    have h1 : (i : Int) < (l.length : Int) := by omega
    have h2 : (0 : Int) ≤ (i : Int) := by omega
    have hdrop : l.drop i = x :: l.drop (i + 1) := by
     obtain ⟨hh, e⟩ := List.getElem?_eq_some_iff.1 hx
     rw [List.drop_eq_getElem_cons hh, e]
    have HDR : Hid (leadR r 0 (l.map bts) = leadR r k (bts x :: (l.drop (i + 1)).map bts)) := by show _ = _; rw [HW.out.2, hdrop, List.map_cons]
    clear hx hdrop hlt
    go_wp2_with fail
    refine (HK.out k HW.out.1 _ (HD.out.drewN _)).mono ?_
    rintro e w1 ⟨rfl, m1, rfl⟩
    by_cases p1 : r.kind k = 2
    · have q1 : (r.kind k != 2) = false := by rw [p1]; rfl
      have q2 : ¬ r.kind k ≠ 2 := fun q => q p1
      by_cases h3 : bts x = [46]
      · obtain ⟨t1, t2⟩ := txt_yes h3
        have HN : Hid (leadR r 0 (l.map bts) = leadR r k ((l.drop (i + 1)).map bts)) := by show _ = _; rw [HDR.out, leadR, if_neg q2, if_pos h3]
        clear h3
        go_wp2_with fail
        go_roundw
        case rel => exact ⟨i + 1, k, by omega, by go_num, rfl, Lh ⟨HW.out.1, HN.out⟩, m + m1, by first | rfl | rw [World.drewN_drewN]⟩
        case measure => simp [intOf] <;> omega
      · obtain ⟨t1, t2⟩ := txt_no h3
        by_cases h4 : bts x = [46, 46]
        · obtain ⟨t3, t4⟩ := txt_yes h4
          have HN : Hid (leadR r 0 (l.map bts) = leadR r (r.par k) ((l.drop (i + 1)).map bts)) := by show _ = _; rw [HDR.out, leadR, if_neg q2, if_neg h3, if_pos h4]
          clear h3 h4 t1
          go_wp2_with fail
          refine (HP.out k _ (HD.out.drewN _)).mono ?_
          rintro e w2 ⟨rfl, rfl⟩
          go_wp2_with fail
          go_roundw
          case rel => exact ⟨i + 1, r.par k, by omega, by go_num, rfl, Lh ⟨HF.out.par k, HN.out⟩, m + m1, by first | rfl | rw [World.drewN_drewN]⟩
          case measure => simp [intOf] <;> omega
        · obtain ⟨t3, t4⟩ := txt_no h4
          rcases ent_first r k x with ⟨f1, f2⟩ | ⟨j, y, f1, f2, f3⟩
          · have HN : Hid (leadR r 0 (l.map bts) = (0, 210)) := by show _ = _; rw [HDR.out, leadR, if_neg q2, if_neg h3, if_neg h4, f2]
            have HC := Lh (HE.out k x)
            rw [f1] at HC
            clear h3 h4 f1 f2
            go_wp2_with fail
            refine (HC.out _ (HD.out.drewN _)).mono ?_
            rintro e w2 ⟨rfl, rfl⟩
            go_wp2_with fail
            go_ret2
            exact ⟨by rw [HN.out]; rfl, m + m1, by first | rfl | rw [World.drewN_drewN]⟩
          · have HN : Hid (leadR r 0 (l.map bts) = leadR r y.node ((l.drop (i + 1)).map bts)) := by show _ = _; rw [HDR.out, leadR, if_neg q2, if_neg h3, if_neg h4, f3]
            have HC := Lh (HE.out k x)
            rw [f1] at HC
            obtain ⟨ge, cap', q, hge, d0, d1, d2⟩ := HD.out.ent f2
            rw [HVE.out] at q
            injection q with q _ _
            subst q
            have HTH := Lh (HF.out.enode y (List.mem_of_getElem? f2))
            have j1 : (j : Int) < (r.ents.length : Int) := by have := (List.getElem?_eq_some_iff.1 f2).1; omega
            have j0 : (0 : Int) ≤ (j : Int) := by omega
            have j2 : ¬ (j : Int) < 0 := by omega
            clear h3 h4 f1 f2 f3 d0 d1
            go_wp2_with fail
            refine (HC.out _ (HD.out.drewN _)).mono ?_
            rintro e w2 ⟨rfl, rfl⟩
            go_wp2_with fail
            go_roundw
            case rel => exact ⟨i + 1, y.node, by omega, by go_num, rfl, Lh ⟨HTH.out, HN.out⟩, m + m1, by first | rfl | rw [World.drewN_drewN]⟩
            case measure => simp [intOf] <;> omega
    · have q1 : (r.kind k != 2) = true := by rw [bne_iff_ne]; exact p1
      have HN : Hid (leadR r 0 (l.map bts) = (0, 212)) := by show _ = _; rw [HDR.out, leadR, if_pos p1]
      go_wp2_with fail
      go_ret2
      exact ⟨by rw [HN.out]; rfl, m + m1, by first | rfl | rw [World.drewN_drewN]⟩
  · have h1 : ¬ (i : Int) < (l.length : Int) := by omega
    have HR : Hid (leadR r 0 (l.map bts) = (k, 0)) := by show _ = _; rw [HW.out.2, List.drop_eq_nil_of_le (by omega)]; rfl
    clear hlt
    go_wp2_with fail
    go_ret2
    exact ⟨by rw [HR.out]; rfl, m, rfl⟩
end Go.Proofs.YtppdihpobokfnaaGreatDoor
set_option linter.unusedVariables false
set_option linter.unusedSimpArgs false
set_option maxRecDepth 100000
namespace Go.Proofs.YtppdihpobokfnaaGreatDoor
open Go.RowKit Go.Joins
def Dr (w W : World) : Prop := ∃ m, W = w.drewN m
theorem Dr.doc {w W : World} {Q : Rr} {r : RM} (h : DocAt w Q r) (hd : Dr w W) : DocAt W Q r := by
 obtain ⟨m, rfl⟩ := hd
 exact h.drewN m
theorem Dr.row {w W : World} {b : Nat} {xs : List Value} (h : RowAt w b xs) (hd : Dr w W) : RowAt W b xs := by
 obtain ⟨m, rfl⟩ := hd
 exact h.same rfl
theorem Dr.trans {w W : World} {m : Nat} (hd : Dr w W) : Dr w (W.drewN m) := by
 obtain ⟨n, rfl⟩ := hd
 exact ⟨n + m, by rw [World.drewN_drewN]⟩
theorem Dr.below {w W : World} (hd : Dr w W) {b : Nat} : Below b w W := by
 obtain ⟨m, rfl⟩ := hd
 exact below_drewN (Below.refl _ _) m
theorem r22fail (z : Int) (w : World) : Calls Tryz.prog 66 #[.int .i64 z] w fun e w' => e = .returned (failV z) ∧ Below w.heap.size w w' := by
 go_enter Tryz.func66, Tryz.ntmps66
 go_wp2
 exact bodyPost_ret (v := failV z) (by simp [results, Tryz.results66, go_sem, failV, anV, Stt.zero]) rfl ⟨rfl, by go_grown⟩
theorem byFd_at (k : Int) : byFd k = (k == 2 || k == 3 || k == 4 || k == 5 || k == 6 || k == 14 || k == 16) := rfl
set_option maxHeartbeats 2000000 in
theorem r22byFd (k : Int) (w : World) : Calls Tryz.prog 64 #[.int .i64 k] w fun e w' => e = .returned (.bool (byFd k)) ∧ w = w' := by
 rw [byFd_at]
 go_enter Tryz.func64, Tryz.ntmps64
 by_cases h2 : k = 2
 · subst h2
   go_wp2
   go_ret
   exact ⟨rfl, rfl⟩
 have g2 : (k == 2) = false := by simpa using h2
 by_cases h3 : k = 3
 · subst h3
   go_wp2
   go_ret
   exact ⟨rfl, rfl⟩
 have g3 : (k == 3) = false := by simpa using h3
 by_cases h4 : k = 4
 · subst h4
   go_wp2
   go_ret
   exact ⟨rfl, rfl⟩
 have g4 : (k == 4) = false := by simpa using h4
 by_cases h5 : k = 5
 · subst h5
   go_wp2
   go_ret
   exact ⟨rfl, rfl⟩
 have g5 : (k == 5) = false := by simpa using h5
 by_cases h6 : k = 6
 · subst h6
   go_wp2
   go_ret
   exact ⟨rfl, rfl⟩
 have g6 : (k == 6) = false := by simpa using h6
 by_cases h14 : k = 14
 · subst h14
   go_wp2
   go_ret
   exact ⟨rfl, rfl⟩
 have g14 : (k == 14) = false := by simpa using h14
 by_cases h16 : k = 16
 · subst h16
   go_wp2
   go_ret
   exact ⟨rfl, rfl⟩
 have g16 : (k == 16) = false := by simpa using h16
 have hr : (k == 2 || k == 3 || k == 4 || k == 5 || k == 6 || k == 14 || k == 16) = false := by rw [g2, g3, g4, g5, g6, g14, g16]; rfl
 rw [hr]
 go_wp2
 go_ret
 exact ⟨rfl, rfl⟩
set_option maxHeartbeats 8000000 in
theorem r22stat (Q : Rr) (r : RM) (id : Nat) (x : RN) (w : World) (h : DocAt w Q r) (hn : r.nodes.length ≤ 1000000) (hm : r.ents.length ≤ 1000000) (hx : r.nd id = some x) (hk : ∀ e ∈ r.ents, ∃ x, r.nd e.node = some x) :
  Calls Tryz.prog 78 #[.pointer (some ⟨Q.b, 0, none⟩), .int .i64 (id : Int)] w fun e w' => e = .returned (.agg #[.int .i64 (r.stat id).kind, .int .i64 (r.stat id).size, .int .i64 (r.stat id).links, .bool (r.stat id).pin]) ∧ Below w.heap.size w w' := by
 have hpin : (r.stat id).pin = x.pin := by show r.pin id = x.pin; unfold RM.pin; rw [hx]
 rw [hpin]
 have e1 : (r.stat id).kind = r.kind id := rfl
 have e2 : (r.stat id).size = r.size id := rfl
 have e3 : (r.stat id).links = r.links id := rfl
 rw [e1, e2, e3]
 clear e1 e2 e3 hpin
 obtain ⟨i, hi, hf, _⟩ := nd_at hx
 have hrow := rowAt_alloc w #[.int .i64 0, .int .i64 0, .int .i64 0, .bool false] 30
 have hb := (Below.refl w.heap.size w).alloc (Nat.le_refl _) (.cells #[.int .i64 0, .int .i64 0, .int .i64 0, .bool false] 30)
 have hD := h.alloc (.cells #[.int .i64 0, .int .i64 0, .int .i64 0, .bool false] 30)
 have hlt := (List.getElem?_eq_some_iff.1 hi).1
 have h1 : (i : Int) < (r.nodes.length : Int) := by omega
 have h0 : (0 : Int) ≤ (i : Int) := by omega
 obtain ⟨g, cap', q, hg, _⟩ := h.node hi
 have HQ := Lh q
 have HI := Lh hi
 clear h hlt hg
 go_enter Tryz.func78, Tryz.ntmps78
 go_upto_region 1 with fail
 generalize w.alloc (.cells #[.int .i64 0, .int .i64 0, .int .i64 0, .bool false] 30) = wa at *
 obtain ⟨G, hG⟩ : ∃ G, G = w.heap.size := ⟨_, rfl⟩
 rw [← hG] at hrow hb ⊢
 have HB := Lh (And.intro hb hG)
 have HK := Lh (fun W (hW : Dr wa W) => r22kind Q r id x W (hW.doc hD) hn hx)
 have HS := Lh (fun W (hW : Dr wa W) => r22size Q r id x W (hW.doc hD) hn hm hx)
 have HL := Lh (fun W (hW : Dr wa W) => r22links Q r id x W (hW.doc hD) hn hm hx hk)
 have HN := Lh (fun W (hW : Dr wa W) => hf ▸ r22node Q r id W (hW.doc hD) hn)
 have HX : Hid (∀ W, Dr wa W → W.cell? ⟨Q.b, 2, none⟩ = some (.slice (some ⟨g, 0, none⟩) r.nodes.length cap') ∧ W.cell? ⟨g, i * 4 + 2, none⟩ = some (.bool x.pin) ∧ W.cell? ⟨G, 0, none⟩ = some (.int .i64 0) ∧ W.cell? ⟨G, 1, none⟩ = some (.int .i64 0) ∧ W.cell? ⟨G, 2, none⟩ = some (.int .i64 0) ∧ W.cell? ⟨G, 3, none⟩ = some (.bool false) ∧ W.frozen? ⟨G, 0, none⟩ = false ∧ W.frozen? ⟨G, 1, none⟩ = false ∧ W.frozen? ⟨G, 2, none⟩ = false ∧ W.frozen? ⟨G, 3, none⟩ = false ∧ G < W.heap.size) := fun W hW => by
  have hd := hW.doc hD
  have hr := hW.row hrow
  obtain ⟨_, _, e2, _, _⟩ := hd.cells
  rw [HQ.out] at e2
  obtain ⟨g2, c2, q2, _, _, _, k2, _⟩ := hd.node HI.out
  rw [HQ.out] at q2
  injection q2 with q2 _ q3
  injection q2 with q2
  injection q2 with q2
  subst q2
  exact ⟨e2, k2, hr.cell 0 (by simp), hr.cell 1 (by simp), hr.cell 2 (by simp), hr.cell 3 (by simp), hr.frozen 0 (by simp), hr.frozen 1 (by simp), hr.frozen 2 (by simp), hr.frozen 3 (by simp), hr.lt⟩
 have D0 : Hid (Dr wa wa.drew) := ⟨1, rfl⟩
 have hbl := hD.row.lt
 have HROW := Lh hrow
 clear hrow hb hG hD hx hk hi hf q HI HQ hn hm
 obtain ⟨p0, p1, p2, p3, p4, p5, p6, p7, p8, p9, p10⟩ := HX.out wa ⟨0, rfl⟩
 go_region_law (first
  | (go_simp; go_at_call 109; refine (HK.out _ (by first | exact D0.out | assumption)).mono ?_; rintro e w5 ⟨rfl, m5, hw5⟩; have d5 : Dr wa w5 := hw5 ▸ Dr.trans (by first | exact D0.out | assumption); clear hw5; obtain ⟨q0, q1, q2, q3, q4, q5, q6, q7, q8, q9, q10⟩ := HX.out _ d5)
  | (go_simp; go_at_call 80; refine (HS.out _ (by first | exact D0.out | assumption)).mono ?_; rintro e w6 ⟨rfl, m6, hw6⟩; have d6 : Dr wa w6 := hw6 ▸ Dr.trans (by first | exact D0.out | assumption); clear hw6; obtain ⟨r0, r1, r2, r3, r4, r5, r6, r7, r8, r9, r10⟩ := HX.out _ d6)
  | (go_simp; go_at_call 112; refine (HL.out _ (by first | exact D0.out | assumption)).mono ?_; rintro e w7 ⟨rfl, m7, hw7⟩; have d7 : Dr wa w7 := hw7 ▸ Dr.trans (by first | exact D0.out | assumption); clear hw7; obtain ⟨s0, s1, s2, s3, s4, s5, s6, s7, s8, s9, s10⟩ := HX.out _ d7)
  | (go_simp; go_at_call 79; refine (HN.out _ (by first | exact D0.out | assumption)).mono ?_; rintro e w8 ⟨rfl, hw8⟩; subst hw8))
 all_goals
  have D7 := Lh d7
  clear d5 d6 d7
  have HRW : Hid (RowAt w7 G [.int .i64 0, .int .i64 0, .int .i64 0, .bool false]) := D7.out.row HROW.out
  go_wp2_with fail
  refine bodyPost_ret (v := .agg #[.int .i64 (r.kind id), .int .i64 (r.size id), .int .i64 (r.links id), .bool x.pin]) ?_ rfl ⟨rfl, ?_⟩
  · have hrw := (((HRW.out.set 0 (.int .i64 (r.kind id))).set 1 (.int .i64 (r.size id))).set 2 (.int .i64 (r.links id))).set 3 (.bool x.pin)
    have t0 := hrw.cell 0 (by simp)
    have t1 := hrw.cell 1 (by simp)
    have t2 := hrw.cell 2 (by simp)
    have t3 := hrw.cell 3 (by simp)
    simp at t0 t1 t2 t3
    simp [results, Tryz.results78, go_sem, t0, t1, t2, t3]
  rw [← HB.out.2]
  exact ((((HB.out.1.trans D7.out.below).setCell (p := ⟨G, 0, none⟩) (Nat.le_refl _) _).setCell (p := ⟨G, 1, none⟩) (Nat.le_refl _) _).setCell (p := ⟨G, 2, none⟩) (Nat.le_refl _) _).setCell (p := ⟨G, 3, none⟩) (Nat.le_refl _) _
end Go.Proofs.YtppdihpobokfnaaGreatDoor
set_option linter.unusedVariables false
set_option linter.unusedSimpArgs false
set_option maxRecDepth 100000
namespace Go.Proofs.YtppdihpobokfnaaGreatDoor
open Go.RowKit Go.Joins
set_option maxHeartbeats 2000000 in
theorem r22path (Q : Rr) (r : RM) (s : ByteArray) (hs : s.size ≤ 100000) (w : World) (h : DocAt w Q r) (hF : RFull r) :
  Calls Tryz.prog 108 #[.pointer (some ⟨Q.b, 0, none⟩), .string s] w fun e w' => e = .returned (.tuple #[.int .i64 ((pathR r (bts s)).1 : Int), .int .i64 (pathR r (bts s)).2]) ∧ Below w.heap.size w w' := by
 obtain ⟨l, z, hl⟩ := split_list s
 have HS := Lh (rsplit_is hl hs w)
 by_cases hz : z = 0
 · subst hz
   have HL := Lh (split_short hl)
   have HR := Lh (show pathR r (bts s) = leadR r 0 (l.map bts) from by rw [pathR, hl]; rfl)
   have HM := Lh h
   have HF := Lh hF
   clear hl h hF
   go_enter Tryz.func108, Tryz.ntmps108
   go_wp2_with fail
   refine HS.out.mono ?_
   rintro e w1 ⟨⟨a, cap, rfl, h1, h2, hn⟩, hb⟩
   have HW := Lh (r22lead Q r a cap l w1 (HM.out.below hb) HF.out hn.vals (by have := HL.out; omega))
   have HB := Lh hb
   clear hb hn h2 HS
   go_wp2_with fail
   refine HW.out.mono ?_
   rintro e w2 ⟨rfl, m2, rfl⟩
   go_wp2_with fail
   go_ret2
   exact ⟨by rw [HR.out]; rfl, below_drewN HB.out m2⟩
 · have HR := Lh (show pathR r (bts s) = (0, z) from by rw [pathR, hl, if_pos hz])
   have hq : (z != 0) = true := by rw [bne_iff_ne]; exact hz
   clear hl hz h hF
   go_enter Tryz.func108, Tryz.ntmps108
   go_wp2_with fail
   refine HS.out.mono ?_
   rintro e w1 ⟨⟨a, cap, rfl, h1, h2, hn⟩, hb⟩
   clear hn h2 h1 HS
   have HB := Lh hb
   clear hb
   go_wp2_with fail
   go_ret2
   exact ⟨by rw [HR.out]; rfl, HB.out⟩
theorem place_snoc (r : RM) {p : Bs} (ps : List Bs) (x : Bs) (h : splitP p = (ps ++ [x], 0)) : placeR r p = if x = [46] ∨ x = [46, 46] then (Pl.zero, 216) else if (leadR r 0 ps).2 ≠ 0 then (Pl.zero, (leadR r 0 ps).2) else if r.kind (leadR r 0 ps).1 ≠ 2 then (Pl.zero, 212) else (⟨(leadR r 0 ps).1, nodeAt ((r.ent (leadR r 0 ps).1 x).map (·.node)), x⟩, 0) := by
 rw [placeR, h]
 simp only [List.getLast?_concat, List.dropLast_concat, ne_eq, not_true_eq_false, if_false]
def plT (p : Pl × Int) : Value := .tuple #[.int .i64 (p.1.dir : Int), .string (tx p.1.name), .int .i64 p.1.node, .int .i64 p.2]
theorem results_tmp4 {fn : Func} {t u v x : Tmp} (h : fn.results = #[.tmp t, .tmp u, .tmp v, .tmp x]) (tmps : Array Value) (P : Program) (w : World) :
  (results fn tmps).run P w = .ok (.tuple #[tmps.getD t undef, tmps.getD u undef, tmps.getD v undef, tmps.getD x undef]) w := by
 simp [results, h]
set_option maxHeartbeats 8000000 in
theorem r22place (Q : Rr) (r : RM) (s : ByteArray) (hs : s.size ≤ 100000) (w : World) (h : DocAt w Q r) (hF : RFull r) :
  Calls Tryz.prog 110 #[.pointer (some ⟨Q.b, 0, none⟩), .string s] w fun e w' => e = .returned (plT (placeR r (bts s))) ∧ Below w.heap.size w w' := by
 obtain ⟨l, z, hl⟩ := split_list s
 have HS := Lh (rsplit_is hl hs w)
 by_cases hz : z = 0
 · subst hz
   have HL := Lh (split_short hl)
   have HM := Lh h
   have HF := Lh hF
   rcases List.eq_nil_or_concat l with hc | ⟨init, x, hc⟩
   · subst hc
     have HR := Lh (show placeR r (bts s) = (Pl.zero, 216) from by rw [placeR, hl]; rfl)
     clear hl h hF
     go_enter Tryz.func110, Tryz.ntmps110
     go_wp2_with fail
     refine HS.out.mono ?_
     rintro e w1 ⟨⟨a, cap, rfl, h1, h2, hn⟩, hb⟩
     have HB := Lh hb
     clear hb hn h2 h1 HS
     go_wp2_with fail
     (try simp only [Exit.inBlock, Exit.then]); refine bodyPost_ret (results_tmp4 rfl _ _ _) rfl ?_
     exact ⟨by rw [HR.out]; rfl, HB.out⟩
   · rw [List.concat_eq_append] at hc
     subst hc
     have hq : (init ++ [x]).length = init.length + 1 := by simp
     have hil : init.length ≤ 16 := by have := HL.out; omega
     have HLP := Lh (place_snoc r (init.map bts) (bts x) (by rw [hl, List.map_append]; rfl))
     rw [hq] at HS
     clear hq hl h hF
     go_enter Tryz.func110, Tryz.ntmps110
     go_wp2_with fail
     refine HS.out.mono ?_
     rintro e w1 ⟨⟨a, cap, rfl, h1, h2, hn⟩, hb⟩
     obtain ⟨g1, rfl, R1⟩ : ∃ g, a = some ⟨g, 0, none⟩ ∧ RowAt w1 g (strs (init ++ [x])) := by
      rcases hn with h | ⟨g, q1, _, q3⟩
      · have h2 := congrArg List.length h
        rw [strs_len] at h2
        simp at h2
      · exact ⟨g, q1, q3⟩
     have n0 : w1.cell? ⟨g1, init.length, none⟩ = some (.string x) := by
      rw [R1.cell _ (by rw [strs_len]; simp)]
      exact strs_get (by simp)
     have HV := Lh (show ValS w1 (some ⟨g1, 0, none⟩) (strs init) from vals_front (r := strs [x]) (by rw [strs, List.map_append] at R1; exact R1))
     have HM1 := Lh (HM.out.below hb)
     have HW := Lh (r22lead Q r (some ⟨g1, 0, none⟩) cap init w1 HM1.out HF.out HV.out (by omega))
     have hcc : (init.length : Int) ≤ (cap : Int) := by omega
     have f3 : (0 : Int) ≤ (init.length : Int) := by omega
     have f4 : (init.length : Int) < (init.length : Int) + 1 := by omega
     have f5 : ¬ (init.length : Int) < 0 := by omega
     have f6 : ¬ (init.length : Int) + 1 = 0 := by omega
     have f7 : ((init.length : Int) + 1 == 0) = false := by rw [beq_eq_false_iff_ne]; exact f6
     have f8 : (init.length : Int) ≤ 100 := by omega
     have gl := R1.lt
     have HB1 := Lh hb
     clear hn hb h2 HS R1 h1 HM
     by_cases d1 : bts x = [46]
     · have HR := Lh (show placeR r (bts s) = (Pl.zero, 216) from by rw [HLP.out, if_pos (.inl d1)])
       obtain ⟨t1, t2⟩ := txt_yes d1
       clear d1
       go_wp2_with fail
       (try simp only [Exit.inBlock, Exit.then]); refine bodyPost_ret (results_tmp4 rfl _ _ _) rfl ?_
       exact ⟨by rw [HR.out]; rfl, HB1.out⟩
     by_cases d2 : bts x = [46, 46]
     · have HR := Lh (show placeR r (bts s) = (Pl.zero, 216) from by rw [HLP.out, if_pos (.inr d2)])
       obtain ⟨t1, t2⟩ := txt_yes d2
       obtain ⟨t3, t4⟩ := txt_no d1
       clear d1 d2 t1
       go_wp2_with fail
       (try simp only [Exit.inBlock, Exit.then]); refine bodyPost_ret (results_tmp4 rfl _ _ _) rfl ?_
       exact ⟨by rw [HR.out]; rfl, HB1.out⟩
     obtain ⟨t1, t2⟩ := txt_no d1
     obtain ⟨t3, t4⟩ := txt_no d2
     have HN := Lh (show ¬ (bts x = [46] ∨ bts x = [46, 46]) from fun h => h.elim d1 d2)
     clear d1 d2
     by_cases he : (leadR r 0 (init.map bts)).2 = 0
     · obtain ⟨k, hkk⟩ : ∃ k, k = (leadR r 0 (init.map bts)).1 := ⟨_, rfl⟩
       have hTh := leadR_there HF.out (init.map bts) 0 (by obtain ⟨y, hy, _⟩ := HF.out.root; exact ⟨y, hy⟩)
       rw [← hkk] at hTh
       obtain ⟨y, hy⟩ := hTh
       rw [he, ← hkk] at HW
       have HX := Lh (show placeR r (bts s) = if r.kind k ≠ 2 then (Pl.zero, 212) else (⟨k, nodeAt ((r.ent k (bts x)).map (·.node)), bts x⟩, 0) from by rw [HLP.out, if_neg HN.out, if_neg (by rw [he]; simp), ← hkk])
       have HK := Lh (fun W (hW : DocAt W Q r) => r22kind Q r k y W hW HF.out.nodes hy)
       have HE := Lh (fun W (hW : DocAt W Q r) => r22entry Q r k x W hW HF.out.ents)
       clear he hkk HLP HN hy
       by_cases p1 : r.kind k = 2
       · have q1 : (r.kind k != 2) = false := by rw [p1]; rfl
         rcases ent_first r k x with ⟨u1, u2⟩ | ⟨j, y2, u1, u2, u3⟩
         · have HR := Lh (show placeR r (bts s) = (⟨k, -1, bts x⟩, 0) from by rw [HX.out, if_neg (by rw [p1]; simp), u2]; rfl)
           rw [u1] at HE
           clear p1 u1 u2 HX
           go_wp2_with fail
           refine HW.out.mono ?_
           rintro e w2 ⟨rfl, m2, rfl⟩
           go_wp2_with fail
           refine (HK.out _ (HM1.out.drewN _)).mono ?_
           rintro e w3 ⟨rfl, m3, rfl⟩
           go_wp2_with fail
           refine (HE.out _ (HM1.out.drewN _)).mono ?_
           rintro e w4 ⟨rfl, rfl⟩
           go_wp2_with fail
           go_quiet (fail)
           go_wp2_with fail
           (try simp only [Exit.inBlock, Exit.then]); refine bodyPost_ret (results_tmp4 rfl _ _ _) rfl ?_
           refine ⟨?_, by first | exact below_drewN HB1.out _ | exact below_drewN (below_drewN HB1.out _) _⟩
           rw [HR.out, plT, tx_back]; rfl
         · have HR := Lh (show placeR r (bts s) = (⟨k, (y2.node : Int), bts x⟩, 0) from by rw [HX.out, if_neg (by rw [p1]; simp), u3]; rfl)
           rw [u1] at HE
           obtain ⟨ge, cape, v1, vg, v2, v3, v4⟩ := HM1.out.ent u2
           obtain ⟨_, _, _, e3, _⟩ := HM1.out.cells
           rw [v1] at e3
           have j1 : (j : Int) < (r.ents.length : Int) := by have := (List.getElem?_eq_some_iff.1 u2).1; omega
           have j0 : (0 : Int) ≤ (j : Int) := by omega
           have j2 : ¬ (j : Int) < 0 := by omega
           have hbl := HM1.out.row.lt
           clear p1 u1 u2 u3 HX v2 v3 v1
           go_wp2_with fail
           refine HW.out.mono ?_
           rintro e w2 ⟨rfl, m2, rfl⟩
           go_wp2_with fail
           refine (HK.out _ (HM1.out.drewN _)).mono ?_
           rintro e w3 ⟨rfl, m3, rfl⟩
           go_wp2_with fail
           refine (HE.out _ (HM1.out.drewN _)).mono ?_
           rintro e w4 ⟨rfl, rfl⟩
           go_wp2_with fail
           go_quiet (fail)
           go_wp2_with fail
           (try simp only [Exit.inBlock, Exit.then]); refine bodyPost_ret (results_tmp4 rfl _ _ _) rfl ?_
           refine ⟨?_, by first | exact below_drewN HB1.out _ | exact below_drewN (below_drewN HB1.out _) _⟩
           rw [HR.out, plT, tx_back]; rfl
       · have q1 : (r.kind k != 2) = true := by rw [bne_iff_ne]; exact p1
         have HR := Lh (show placeR r (bts s) = (Pl.zero, 212) from by rw [HX.out, if_pos p1])
         clear p1 HX HE
         go_wp2_with fail
         refine HW.out.mono ?_
         rintro e w2 ⟨rfl, m2, rfl⟩
         go_wp2_with fail
         refine (HK.out _ (HM1.out.drewN _)).mono ?_
         rintro e w3 ⟨rfl, m3, rfl⟩
         go_wp2_with fail
         (try simp only [Exit.inBlock, Exit.then]); refine bodyPost_ret (results_tmp4 rfl _ _ _) rfl ?_
         exact ⟨by rw [HR.out]; rfl, by first | exact below_drewN HB1.out _ | exact below_drewN (below_drewN HB1.out _) _⟩
     · have q1 : ((leadR r 0 (init.map bts)).2 != 0) = true := by rw [bne_iff_ne]; exact he
       have HR := Lh (show placeR r (bts s) = (Pl.zero, (leadR r 0 (init.map bts)).2) from by rw [HLP.out, if_neg HN.out, if_pos he])
       generalize (leadR r 0 (init.map bts)).2 = z at *
       clear he HLP
       go_wp2_with fail
       refine HW.out.mono ?_
       rintro e w2 ⟨rfl, m2, rfl⟩
       go_wp2_with fail
       (try simp only [Exit.inBlock, Exit.then]); refine bodyPost_ret (results_tmp4 rfl _ _ _) rfl ?_
       exact ⟨by rw [HR.out]; rfl, below_drewN HB1.out _⟩
 · have HR := Lh (show placeR r (bts s) = (Pl.zero, z) from by rw [placeR, hl, if_pos hz])
   have hq : (z != 0) = true := by rw [bne_iff_ne]; exact hz
   clear hl hz h hF
   go_enter Tryz.func110, Tryz.ntmps110
   go_wp2_with fail
   refine HS.out.mono ?_
   rintro e w1 ⟨⟨a, cap, rfl, h1, h2, hn⟩, hb⟩
   clear hn h2 h1 HS
   have HB := Lh hb
   clear hb
   go_wp2_with fail
   (try simp only [Exit.inBlock, Exit.then]); refine bodyPost_ret (results_tmp4 rfl _ _ _) rfl ?_
   exact ⟨by rw [HR.out]; rfl, HB.out⟩
end Go.Proofs.YtppdihpobokfnaaGreatDoor
