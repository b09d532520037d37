/- What is known of calls that came in. Walks: the model's laws' own functions: Beyond, played. Walks: a model that is none. -/
import Derived.Test.YtppdihpobokfnaaGreatDoorGBase
import Derived.Test.YtppdihpobokfnaaGreatDoorGI
import Derived.Test.YtppdihpobokfnaaGreatDoorModW34
import Derived.Deep.RegionHeld3
set_option linter.unusedVariables false
set_option linter.unusedSimpArgs false
set_option maxRecDepth 100000
namespace Go.Proofs.YtppdihpobokfnaaGreatDoor
open Go.RowKit Go.Joins Go.ChangeShapes Go.WideShapes Go.Deep

section
variable {H : Type} {enc : TypeId × Value → H} {P : Program} {w : World} {base : Nat} {spare : Nat → Bool} {held : Bool}
theorem trod_textC {t : TypeId} {fuel : Nat} {v : Value} {x : DataW H × List MemPlace} (ht : P.underlying t = some .string) (h : DataW.trod enc P w base spare held fuel t [v] = some x) : ∃ s : ByteArray, v = .string s ∧ s.size ≤ maxLen := by
  obtain ⟨s, e, _, hs⟩ := DataW.trod_string ht h
  exact ⟨s, by simpa using e, hs⟩
/-- a slice of structs of fields of one cell each -/
theorem trod_flat {t e : TypeId} {fs : Array Field} {fuel : Nat} {cs : List Value} {x : DataW H × List MemPlace} {α : Type} [Inhabited α] (g : α → List Value) (Q : α → Prop) (ht : P.underlying t = some (.slice e)) (he : P.underlying e = some (.struct fs))
    (hone : oneCellFields P fs = true) (hC : P.cellsOf e = fs.size)
    (hel : ∀ (n : Nat) (vs : List Value), vs.length = fs.size → (∀ (i : Nat) (f : Field) (v : Value), fs[i]? = some f → vs[i]? = some v → ∃ y, DataW.trod enc P w base spare held n f.type [v] = some y) → ∃ z : α, vs = g z ∧ Q z)
    (hpos : 0 < fs.size)
    (h : DataW.trod enc P w base spare held fuel t cs = some x) :
    ∃ a cap zs, cs = [.slice a (List.length zs) cap] ∧ zs.length ≤ cap ∧ cap ≤ maxLen ∧ ValG w a fs.size (zs.map g) ∧ (∀ z ∈ zs, Q z) ∧ (a = none → cap = 0) := by
  rcases open_slice ht h with ⟨rfl, _⟩ | ⟨a, len, cap, m, n, D, Pl, rfl, hb, hl, hm, hmm, rfl, hx⟩
  · exact ⟨none, 0, [], rfl, Nat.le_refl _, by simp, .inl rfl, (fun y hy => by cases hy), fun _ => rfl⟩
  · have hlm : len ≤ m := by rw [hmm]; split <;> omega
    have each : ∀ i, i < len → ∃ z : α, (∀ j v, (g z)[j]? = some v → w.cell? (a.add (i * fs.size + j)) = some v) ∧ (g z).length = fs.size ∧ Q z := by
      intro i hi
      obtain ⟨vs, g1, g2⟩ := hx i (by omega)
      rw [hC] at g1
      obtain ⟨_, hlen, hcell⟩ := World.cells?_some g1
      obtain ⟨xs, k, hk, hxy, _, hxl, hf⟩ := DataW.trod_struct he g2
      obtain ⟨z, hz, hQ⟩ := hel k vs hlen (fun j f v hj hv => by
        have q := hf j f hj
        obtain ⟨o, p⟩ := hone_of hone j f hj
        have hj' : j < xs.length := by rw [hxl]; exact (Array.getElem?_eq_some_iff.1 hj).1
        rw [List.getElem?_eq_getElem hj', o, p] at q
        obtain ⟨hjv, e9⟩ := List.getElem?_eq_some_iff.1 hv
        have : (vs.drop j).take 1 = [v] := by
          rw [List.drop_eq_getElem_cons hjv, e9]
          rfl
        rw [this] at q
        exact ⟨_, q⟩)
      refine ⟨z, fun j v hj => ?_, by rw [← hz]; exact hlen, hQ⟩
      rw [← hz] at hj
      obtain ⟨hjv, e9⟩ := List.getElem?_eq_some_iff.1 hj
      have := hcell j (by omega)
      rw [add_add] at this
      rw [this, hj]
    obtain ⟨q, hq⟩ := choose_lt each
    have hlen : ((List.range len).map q).length = len := by simp
    refine ⟨some a, cap, (List.range len).map q, by rw [hlen], by rw [hlen]; exact hl, hm, ?_, ?_, fun h => by cases h⟩
    · by_cases hz : len = 0
      · subst hz; exact .inl rfl
      · obtain ⟨e0, el, _⟩ := hq 0 (by omega)
        have e00 := e0 0 _ (List.getElem?_eq_getElem (by omega))
        rw [Nat.zero_mul] at e00
        obtain ⟨ea, hlt⟩ := spot_of_cell (show w.cell? a = some _ from e00)
        refine .inr ⟨a.block, a.off, by rw [← ea], hlt, fun i xs hi j v hj => ?_⟩
        have hil : i < len := by
          have := (List.getElem?_eq_some_iff.1 hi).1
          simpa using this
        have hxs : g (q i) = xs := by
          simp [hil] at hi
          exact hi
        obtain ⟨c0, _, _⟩ := hq i hil
        have c1 := c0 j v (by rw [hxs]; exact hj)
        rw [ea, addr_add] at c1
        rw [Nat.add_assoc]
        exact c1
    · intro z hz
      obtain ⟨i, hi, rfl⟩ := List.mem_map.1 hz
      exact (hq i (List.mem_range.1 hi)).2.2
end

instance : Inhabited Cl := ⟨⟨0, ⟨#[]⟩, ⟨#[]⟩, 0, 0, ⟨#[]⟩, false⟩⟩
/-- a call of Go's -/
def ClOk (c : Cl) : Prop := i64B c.k ∧ i64B c.fd ∧ i64B c.n ∧ c.p.size ≤ maxLen ∧ c.o.size ≤ maxLen ∧ c.d.size ≤ maxLen
theorem ClOk.wf {c : Cl} (h : ClOk c) : (Lit.int .i64 c.k).wf = true := WalkArith.wf_i64 ⟨h.1.1, h.1.2⟩
theorem call_of {H : Type} {enc : TypeId × Value → H} {w : World} {base : Nat} {spare : Nat → Bool} {held : Bool} {n : Nat} {v0 v1 v2 v3 v4 v5 v6 : Value} {y0 y1 y2 y3 y4 y5 y6 : DataW H × List MemPlace}
    (h0 : DataW.trod enc Tryz.prog w base spare held n 3 [v0] = some y0) (h1 : DataW.trod enc Tryz.prog w base spare held n 9 [v1] = some y1) (h2 : DataW.trod enc Tryz.prog w base spare held n 9 [v2] = some y2) (h3 : DataW.trod enc Tryz.prog w base spare held n 3 [v3] = some y3) (h4 : DataW.trod enc Tryz.prog w base spare held n 3 [v4] = some y4) (h5 : DataW.trod enc Tryz.prog w base spare held n 9 [v5] = some y5) (h6 : DataW.trod enc Tryz.prog w base spare held n 4 [v6] = some y6) : ∃ c : Cl, [v0, v1, v2, v3, v4, v5, v6] = callC c ∧ ClOk c := by
  obtain ⟨k, rfl, b0⟩ := trod_i64 Tryz.underlying3 h0
  obtain ⟨p, rfl, b1⟩ := trod_textC Tryz.underlying9 h1
  obtain ⟨o, rfl, b2⟩ := trod_textC Tryz.underlying9 h2
  obtain ⟨fd, rfl, b3⟩ := trod_i64 Tryz.underlying3 h3
  obtain ⟨nn, rfl, b4⟩ := trod_i64 Tryz.underlying3 h4
  obtain ⟨d, rfl, b5⟩ := trod_textC Tryz.underlying9 h5
  obtain ⟨on, rfl⟩ := trod_boolv Tryz.underlying4 h6
  exact ⟨⟨k, p, o, fd, nn, d, on⟩, rfl, b0, b3, b4, b1, b2, b5⟩

theorem got_calls {W : World} {v : Value} (h : Got Tryz.prog W 22 v) :
    ∃ a cap, ∃ l : List Cl, v = .slice a l.length cap ∧ l.length ≤ cap ∧ cap ≤ maxLen ∧ ValG W a 7 (l.map callC) ∧ (∀ z ∈ l, ClOk z) := by
  obtain ⟨base, H, enc, d, ps, h1, h2, _⟩ := h
  obtain ⟨a, len, cap, rfl⟩ := okWide_slice Tryz.underlying22 h1
  obtain ⟨fuel, hf⟩ := h2
  obtain ⟨a', cap', l, e, h3, h4, hV, hQ, _⟩ := trod_flat callC ClOk Tryz.underlying22 Tryz.underlying36 (by kernel_rfl) (by kernel_rfl)
    (fun n vs hl hall => by
      match vs, hl with
      | [v0, v1, v2, v3, v4, v5, v6], _ =>
        obtain ⟨y0, q0⟩ := hall 0 _ v0 rfl rfl
        obtain ⟨y1, q1⟩ := hall 1 _ v1 rfl rfl
        obtain ⟨y2, q2⟩ := hall 2 _ v2 rfl rfl
        obtain ⟨y3, q3⟩ := hall 3 _ v3 rfl rfl
        obtain ⟨y4, q4⟩ := hall 4 _ v4 rfl rfl
        obtain ⟨y5, q5⟩ := hall 5 _ v5 rfl rfl
        obtain ⟨y6, q6⟩ := hall 6 _ v6 rfl rfl
        exact call_of q0 q1 q2 q3 q4 q5 q6) (by decide) hf
  simp [Value.cells] at e
  obtain ⟨e1, e2, e3⟩ := e
  subst e1 e3
  exact ⟨a, cap, l, by rw [e2], h3, h4, hV, hQ⟩

theorem got_call {W : World} {v : Value} (h : Got Tryz.prog W 36 v) : ∃ c : Cl, v = .agg (callC c).toArray ∧ ClOk c := by
  obtain ⟨base, H, enc, d, ps, h1, h2, _⟩ := h
  obtain ⟨cs, rfl, hsz⟩ := okWide_struct Tryz.underlying36 h1
  obtain ⟨l⟩ := cs
  have hC : Tryz.prog.cellsOf 36 = 7 := by kernel_rfl
  obtain ⟨fuel, hf⟩ := h2
  obtain ⟨xs, n, _, hx, _, hlen, hg⟩ := DataW.trod_struct Tryz.underlying36 hf
  match l, hsz.trans hC with
  | [v0, v1, v2, v3, v4, v5, v6], _ =>
    match xs, hlen with
    | [y0, y1, y2, y3, y4, y5, y6], _ =>
      have hone : oneCellFields Tryz.prog (match Tryz.prog.underlying 36 with | some (.struct fs) => fs | _ => #[]) = true := by kernel_rfl
      rw [Tryz.underlying36] at hone
      have hall : ∀ (i : Nat) (f : Field) (v : Value) (y : DataW H × List MemPlace), DataW.trod enc Tryz.prog W 0 (fun _ => true) true n f.type (((Value.agg [v0, v1, v2, v3, v4, v5, v6].toArray).cells.toList.drop f.offset).take (Tryz.prog.cellsOf f.type)) = [y0, y1, y2, y3, y4, y5, y6][i]? → (f.offset = i ∧ Tryz.prog.cellsOf f.type = 1) → [v0, v1, v2, v3, v4, v5, v6][i]? = some v → [y0, y1, y2, y3, y4, y5, y6][i]? = some y → DataW.trod enc Tryz.prog W 0 (fun _ => true) true n f.type [v] = some y := fun i f v y r hof qv qy => by
        rw [qy, hof.1, hof.2] at r
        obtain ⟨hjv, e9⟩ := List.getElem?_eq_some_iff.1 qv
        have e8 : ((Value.agg [v0, v1, v2, v3, v4, v5, v6].toArray).cells.toList.drop i).take 1 = [v] := by
          show ([v0, v1, v2, v3, v4, v5, v6].drop i).take 1 = [v]
          rw [List.drop_eq_getElem_cons hjv, e9]
          rfl
        rw [e8] at r
        exact r
      obtain ⟨c, h1, h2⟩ := call_of (hall 0 _ v0 y0 (hg 0 _ rfl) (hone_of hone 0 _ rfl) rfl rfl) (hall 1 _ v1 y1 (hg 1 _ rfl) (hone_of hone 1 _ rfl) rfl rfl) (hall 2 _ v2 y2 (hg 2 _ rfl) (hone_of hone 2 _ rfl) rfl rfl) (hall 3 _ v3 y3 (hg 3 _ rfl) (hone_of hone 3 _ rfl) rfl rfl) (hall 4 _ v4 y4 (hg 4 _ rfl) (hone_of hone 4 _ rfl) rfl rfl) (hall 5 _ v5 y5 (hg 5 _ rfl) (hone_of hone 5 _ rfl) rfl rfl) (hall 6 _ v6 y6 (hg 6 _ rfl) (hone_of hone 6 _ rfl) rfl rfl)
      exact ⟨c, by rw [← h1], h2⟩

end Go.Proofs.YtppdihpobokfnaaGreatDoor

set_option linter.unusedVariables false
set_option linter.unusedSimpArgs false
set_option maxRecDepth 100000
namespace Go.Proofs.YtppdihpobokfnaaGreatDoor
open Go.RowKit Go.Joins

theorem call_cells {W : World} {a : Option Addr} {l : List Cl} {k : Nat} {x : Cl} (h : ValG W a 7 (l.map callC)) (hx : l[k]? = some x) : ∃ P o, a = some ⟨P, o, none⟩ ∧ P < W.heap.size ∧ W.cell? ⟨P, o + k * 7, none⟩ = some (.int .i64 x.k) ∧ W.cell? ⟨P, o + k * 7 + 1, none⟩ = some (.string x.p) ∧ W.cell? ⟨P, o + k * 7 + 2, none⟩ = some (.string x.o) ∧ W.cell? ⟨P, o + k * 7 + 3, none⟩ = some (.int .i64 x.fd) ∧ W.cell? ⟨P, o + k * 7 + 4, none⟩ = some (.int .i64 x.n) ∧ W.cell? ⟨P, o + k * 7 + 5, none⟩ = some (.string x.d) ∧ W.cell? ⟨P, o + k * 7 + 6, none⟩ = some (.bool x.on) := by
  obtain ⟨P, o, e, hP, h⟩ := h.at (i := k) (xs := callC x) (by rw [List.getElem?_map, hx]; rfl)
  exact ⟨P, o, e, hP, h 0 _ rfl, h 1 _ rfl, h 2 _ rfl, h 3 _ rfl, h 4 _ rfl, h 5 _ rfl, h 6 _ rfl⟩

/-- what Beyond tells -/
def BeyondR (l : List Cl) (calls : Nat) (e : Ending) : Prop := ∃ b, e = .returned (.bool b) ∧ (b = false → l.length ≤ calls)

set_option maxHeartbeats 8000000 in
theorem beyond22 (a : Option Addr) (cap : Nat) (l : List Cl) (calls bytes : Nat) (w : World) (hm : l.length ≤ maxLen) (hc : calls ≤ 1000) (hb : bytes ≤ 100000) (hV : ValG w a 7 (l.map callC)) :
    Calls Tryz.prog 12 #[.slice a l.length cap, .int .i64 (calls : Int), .int .i64 (bytes : Int)] w fun e w' => BeyondR l calls e ∧ Below w.heap.size w w' := by
  have hm' : (l.length : Int) ≤ 9223372036854775807 := by unfold maxLen at hm; omega
  by_cases hlen : calls < l.length
  · have h1 : (calls : Int) < (l.length : Int) := by omega
    go_enter Tryz.func12, Tryz.ntmps12
    go_wp2_with fail
    go_ret
    exact ⟨⟨true, rfl, fun q => by cases q⟩, Below.refl _ _⟩
  · have h1 : ¬ (calls : Int) < (l.length : Int) := by omega
    have hle : (l.length : Int) ≤ 1000 := by omega
    have HL := Lib.hid (show l.length ≤ calls by omega)
    have HV := Lib.hid hV
    clear hm' hm hlen hV
    go_enter Tryz.func12, Tryz.ntmps12
    go_wp2_with fail
    clear h1
    go_loopw [7, 8] (fun nn jj wr => ∃ (k : Nat) (z : Int), k ≤ l.length ∧ jj = .int .i64 (k : Int) ∧ nn = .int .i64 z ∧ Below w.heap.size w wr) (fun _ jj _ => l.length - (intOf jj).toNat)
    case atStart => exact ⟨0, 0, by omega, rfl, rfl, Below.refl _ _⟩
    case round =>
      obtain ⟨k, z, hk, rfl, rfl, B⟩ := hrel
      by_cases hlt : k < l.length
      · obtain ⟨x, hx⟩ : ∃ x, l[k]? = some x := ⟨_, List.getElem?_eq_getElem hlt⟩
        obtain ⟨P, o, rfl, hP, c0, c1, c2, c3, c4, c5, c6⟩ := call_cells (HV.out.below B) hx
        have i1 : (k : Int) < (l.length : Int) := by omega
        have i2 : (0 : Int) ≤ (k : Int) := by omega
        have HX := Lib.hid hx
        clear hx hlt
        go_wp2_with fail
        go_quiet (fail)
        have B2 := below_drewN B nq
        clear c0 c1 c2 c3 c4 c5 c6
        obtain ⟨P2, o2, e2, hP2, c0, c1, c2, c3, c4, c5, c6⟩ := call_cells (HV.out.below B2) HX.out
        injection e2 with e2
        injection e2 with e2 e3 e4
        subst e2 e3
        clear c1 c2 c3 c5 c6
        go_upto_region 8 with fail
        generalize wrap64 (wrap64 ((x.p.size : Int) + (x.o.size : Int)) + (x.d.size : Int)) = K at *
        go_wp2_with fail
        all_goals first
          | (go_ret
             exact ⟨⟨true, rfl, fun q => by cases q⟩, B2⟩)
          | (go_roundw
             case rel => exact ⟨k + 1, _, by omega, by go_num, rfl, B2⟩
             case measure => simp [intOf]; omega)
      · obtain rfl : k = l.length := by omega
        have hnl : ¬ ((l.length : Int) < (l.length : Int)) := by omega
        go_wp2_with fail
        go_ret
        exact ⟨⟨false, rfl, fun _ => HL.out⟩, B⟩

def RSub (a b : List (Nat × List Value)) : Prop := ∀ p ∈ a, p ∈ b
/-- a model behind calls -/
def playP (m : Md) (l : List Cl) : Md := l.foldl (fun m c => (doP m c).2) m
theorem playP_snoc (m : Md) (l : List Cl) (c : Cl) : playP m (l ++ [c]) = (doP (playP m l) c).2 := by simp [playP, List.foldl_append]

set_option maxHeartbeats 4000000 in
theorem lv_played {w W : World} (hB : Below w.heap.size w W) (n : Nat) (hn : 8 ≤ n ∧ n ≤ 512) (a : Option Addr) (cap : Nat) (l : List Cl) (hV : ValG w a 7 (l.map callC)) (hk : ∀ c ∈ l, ClOk c) (hl : l.length ≤ 1000) (rows : List (Nat × List Value)) (hr : ∀ p ∈ rows, RowAt W p.1 p.2) :
    Calls Tryz.prog 14 #[.int .i64 (n : Int), .slice a l.length cap] W fun e W' => ∃ (MB : Nat) (rows' : List (Nat × List Value)), e = .returned (.pointer (some ⟨MB, 0, none⟩)) ∧ Lv w MB l.length W' (playP (newP n) l) rows' ∧ RSub rows rows' := by
  have HN := Lib.hid (lv_new w W hB n hn rows hr)
  have HV := Lib.hid hV
  have HK := Lib.hid hk
  have hl' : (l.length : Int) ≤ 1000 := by omega
  have HL := Lib.hid hl
  clear hB hn hV hk hr hl
  go_enter Tryz.func14, Tryz.ntmps14
  go_wp2_with fail
  refine HN.out.mono ?_
  rintro e W1 ⟨MB, rfl, hL⟩
  have L := Lib.hid hL
  clear hL HN
  go_wp2_with fail
  go_loopw [7] (fun jj wr => ∃ (k : Nat) (rs : List (Nat × List Value)), k ≤ l.length ∧ jj = .int .i64 (k : Int) ∧ Hid (Lv w MB k wr (playP (newP n) (l.take k)) rs ∧ ∀ p ∈ rows, p ∈ rs)) (fun jj _ => l.length - (intOf jj).toNat)
  case atStart => exact ⟨0, rows, by omega, rfl, L.out, fun p hp => hp⟩
  case round =>
    obtain ⟨k, rs, hk, rfl, LK⟩ := hrel
    by_cases hlt : k < l.length
    · obtain ⟨x, hx⟩ : ∃ x, l[k]? = some x := ⟨_, List.getElem?_eq_getElem hlt⟩
      obtain ⟨P, o, rfl, hP, c0, c1, c2, c3, c4, c5, c6⟩ := call_cells (HV.out.below LK.out.1.below) hx
      have i1 : (k : Int) < (l.length : Int) := by omega
      have i2 : (0 : Int) ≤ (k : Int) := by omega
      have hst : playP (newP n) (l.take (k + 1)) = (doP (playP (newP n) (l.take k)) x).2 := by rw [take_one hx, playP_snoc]
      have HC := Lib.hid (lv_do LK.out.1 (by have := HL.out; omega) x (HK.out x (List.mem_of_getElem? hx)).wf)
      have HST := Lib.hid hst
      clear hx hlt hst
      go_wp2_with fail
      refine HC.out.mono ?_
      rintro e W5 ⟨na, la, nc, lc, rs', rfl, hL5, hsub, _, _⟩
      have L5 := Lib.hid (And.intro hL5 hsub)
      clear hL5 hsub HC c0 c1 c2 c3 c4 c5 c6
      go_wp2_with fail
      go_roundw
      case rel => exact ⟨k + 1, rs', by omega, by go_num, by rw [HST.out]; exact L5.out.1, fun p hp => L5.out.2 p (LK.out.2 p hp)⟩
      case measure => simp [intOf]; omega
    · obtain rfl : k = l.length := by omega
      have hnl : ¬ ((l.length : Int) < (l.length : Int)) := by omega
      go_wp2_with fail
      go_ret
      refine ⟨MB, rfl, rs, ?_, LK.out.2⟩
      have := LK.out.1
      rw [List.take_length] at this
      exact this

end Go.Proofs.YtppdihpobokfnaaGreatDoor

set_option linter.unusedVariables false
set_option linter.unusedSimpArgs false
set_option maxRecDepth 100000
namespace Go.Proofs.YtppdihpobokfnaaGreatDoor
open Go.RowKit Go.Joins

/-- no model: nil, or one that was not made -/
def NoneP (w : World) (p : Option Addr) : Prop := ∀ W, Below w.heap.size w W → Calls Tryz.prog 35 #[.pointer p] W fun e W' => e = .returned (.bool true) ∧ W = W'
theorem noneP_nil (w : World) : NoneP w none := fun W _ => mnone_nil W
theorem noneP_zero {w : World} {b : Nat} (hb : b < w.heap.size) (h : w.cell? ⟨b, 0, none⟩ = some (.bool false)) : NoneP w (some ⟨b, 0, none⟩) := fun W hW => mnone_row b false W (by rw [hW.cell (p := ⟨b, 0, none⟩) hb]; exact h)
theorem NoneP.below {w W : World} {p : Option Addr} (h : NoneP w p) (hb : Below w.heap.size w W) : NoneP W p := fun W' hW => h W' (hb.trans (hW.mono hb.size))


set_option maxHeartbeats 4000000 in
theorem do_none (p : Option Addr) (c : Cl) (n : Int) (w : World) (h : NoneP w p) :
    Calls Tryz.prog 15 #[.pointer p, .agg #[.int .i64 c.k, .string c.p, .string c.o, .int .i64 c.fd, .int .i64 c.n, .string c.d, .bool c.on]] w fun e w' => e = .returned (.agg (ansC 1 0 ⟨#[]⟩ nilS 0 0 0 false nilS).toArray) ∧ Below w.heap.size w w' := by
  have HN := Lib.hid h
  have z := rowAt_alloc (w.alloc (.cells #[.int .i64 c.k, .string c.p, .string c.o, .int .i64 c.fd, .int .i64 c.n, .string c.d, .bool c.on] 36)) #[.int .i64 0, .int .i64 0, .string ⟨#[]⟩, .slice none 0 0, .int .i64 0, .int .i64 0, .int .i64 0, .bool false, .slice none 0 0, .bool false] 33
  rw [World.size_alloc] at z
  have B := ((Below.refl w.heap.size w).alloc (Nat.le_refl _) (.cells #[.int .i64 c.k, .string c.p, .string c.o, .int .i64 c.fd, .int .i64 c.n, .string c.d, .bool c.on] 36)).alloc (by simp) (.cells #[.int .i64 0, .int .i64 0, .string ⟨#[]⟩, .slice none 0 0, .int .i64 0, .int .i64 0, .int .i64 0, .bool false, .slice none 0 0, .bool false] 33)
  have HZ := Lib.hid (And.intro z B)
  clear z B h
  go_enter Tryz.func15, Tryz.ntmps15
  go_upto_region 1 with fail
  generalize ((w.alloc (.cells #[.int .i64 c.k, .string c.p, .string c.o, .int .i64 c.fd, .int .i64 c.n, .string c.d, .bool c.on] 36)).alloc (.cells #[.int .i64 0, .int .i64 0, .string ⟨#[]⟩, .slice none 0 0, .int .i64 0, .int .i64 0, .int .i64 0, .bool false, .slice none 0 0, .bool false] 33)) = W1 at *
  go_wp2_with fail
  refine (HN.out _ HZ.out.2).mono ?_
  rintro e W2 ⟨rfl, hw⟩
  subst hw
  go_wp2_with fail
  refine (mfailed _ _).mono ?_
  rintro e W3 ⟨rfl, hb⟩
  have hr := HZ.out.1.below hb HZ.out.1.lt
  have HR := Lib.hid (And.intro hr (HZ.out.2.trans (hb.mono HZ.out.2.size)))
  obtain ⟨z0, z1, z2, z3, z4, z5, z6, z7, z8, z9⟩ := row10_cells hr
  obtain ⟨y0, y1, y2, y3, y4, y5, y6, y7, y8, y9⟩ := row10_free hr
  clear hb hr HN HZ
  unfold failV anV Stt.zero
  go_wp2_with fail
  refine bodyPost_ret (v := .agg #[.int .i64 (1), .int .i64 (0), .string (⟨#[]⟩), nilS, .int .i64 (0), .int .i64 (0), .int .i64 (0), .bool (false), nilS, .bool false]) ?_ rfl ?_
  · obtain ⟨t0, t1, t2, t3, t4, t5, t6, t7, t8, t9⟩ := row10_cells (show RowAt _ _ [.int .i64 (1), .int .i64 (0), .string (⟨#[]⟩), nilS, .int .i64 (0), .int .i64 (0), .int .i64 (0), .bool (false), nilS, .bool false] from ((((((((((HR.out.1.set 0 (.int .i64 (1))).set 1 (.int .i64 (0))).set 2 (.string (⟨#[]⟩))).set 3 (nilS)).set 4 (.int .i64 (0))).set 5 (.int .i64 (0))).set 6 (.int .i64 (0))).set 7 (.bool (false))).set 8 (nilS)).set 9 (.bool false)))
    simp [results, Tryz.results15, go_sem, t0, t1, t2, t3, t4, t5, t6, t7, t8, t9]; done
  · refine ⟨rfl, ?_⟩
    repeat (refine Below.setCell ?_ (by simp) _)
    exact HR.out.2

set_option maxHeartbeats 4000000 in
theorem short_none (p : Option Addr) (c : Cl) (n : Int) (w : World) (h : NoneP w p) :
    Calls Tryz.prog 27 #[.pointer p, .agg #[.int .i64 c.k, .string c.p, .string c.o, .int .i64 c.fd, .int .i64 c.n, .string c.d, .bool c.on], .int .i64 n] w fun e w' => e = .returned (.agg (ansC 1 0 ⟨#[]⟩ nilS 0 0 0 false nilS).toArray) ∧ Below w.heap.size w w' := by
  have HN := Lib.hid h
  have z := rowAt_alloc (w.alloc (.cells #[.int .i64 c.k, .string c.p, .string c.o, .int .i64 c.fd, .int .i64 c.n, .string c.d, .bool c.on] 36)) #[.int .i64 0, .int .i64 0, .string ⟨#[]⟩, .slice none 0 0, .int .i64 0, .int .i64 0, .int .i64 0, .bool false, .slice none 0 0, .bool false] 33
  rw [World.size_alloc] at z
  have B := ((Below.refl w.heap.size w).alloc (Nat.le_refl _) (.cells #[.int .i64 c.k, .string c.p, .string c.o, .int .i64 c.fd, .int .i64 c.n, .string c.d, .bool c.on] 36)).alloc (by simp) (.cells #[.int .i64 0, .int .i64 0, .string ⟨#[]⟩, .slice none 0 0, .int .i64 0, .int .i64 0, .int .i64 0, .bool false, .slice none 0 0, .bool false] 33)
  have HZ := Lib.hid (And.intro z B)
  clear z B h
  go_enter Tryz.func27, Tryz.ntmps27
  go_upto_region 1 with fail
  generalize ((w.alloc (.cells #[.int .i64 c.k, .string c.p, .string c.o, .int .i64 c.fd, .int .i64 c.n, .string c.d, .bool c.on] 36)).alloc (.cells #[.int .i64 0, .int .i64 0, .string ⟨#[]⟩, .slice none 0 0, .int .i64 0, .int .i64 0, .int .i64 0, .bool false, .slice none 0 0, .bool false] 33)) = W1 at *
  go_wp2_with fail
  refine (HN.out _ HZ.out.2).mono ?_
  rintro e W2 ⟨rfl, hw⟩
  subst hw
  go_wp2_with fail
  refine (mfailed _ _).mono ?_
  rintro e W3 ⟨rfl, hb⟩
  have hr := HZ.out.1.below hb HZ.out.1.lt
  have HR := Lib.hid (And.intro hr (HZ.out.2.trans (hb.mono HZ.out.2.size)))
  obtain ⟨z0, z1, z2, z3, z4, z5, z6, z7, z8, z9⟩ := row10_cells hr
  obtain ⟨y0, y1, y2, y3, y4, y5, y6, y7, y8, y9⟩ := row10_free hr
  clear hb hr HN HZ
  unfold failV anV Stt.zero
  go_wp2_with fail
  refine bodyPost_ret (v := .agg #[.int .i64 (1), .int .i64 (0), .string (⟨#[]⟩), nilS, .int .i64 (0), .int .i64 (0), .int .i64 (0), .bool (false), nilS, .bool false]) ?_ rfl ?_
  · obtain ⟨t0, t1, t2, t3, t4, t5, t6, t7, t8, t9⟩ := row10_cells (show RowAt _ _ [.int .i64 (1), .int .i64 (0), .string (⟨#[]⟩), nilS, .int .i64 (0), .int .i64 (0), .int .i64 (0), .bool (false), nilS, .bool false] from ((((((((((HR.out.1.set 0 (.int .i64 (1))).set 1 (.int .i64 (0))).set 2 (.string (⟨#[]⟩))).set 3 (nilS)).set 4 (.int .i64 (0))).set 5 (.int .i64 (0))).set 6 (.int .i64 (0))).set 7 (.bool (false))).set 8 (nilS)).set 9 (.bool false)))
    simp [results, Tryz.results27, go_sem, t0, t1, t2, t3, t4, t5, t6, t7, t8, t9]; done
  · refine ⟨rfl, ?_⟩
    repeat (refine Below.setCell ?_ (by simp) _)
    exact HR.out.2

theorem view_none (p : Option Addr) (w : World) (h : NoneP w p) : Calls Tryz.prog 19 #[.pointer p] w fun e w' => e = .returned (.slice none 0 0) ∧ Below w.heap.size w w' := by
  have HN := Lib.hid h
  have B := (Below.refl w.heap.size w).alloc (Nat.le_refl _) (.cells #[.pointer p] 25)
  clear h
  go_enter Tryz.func19, Tryz.ntmps19
  go_wp2_with fail
  refine (HN.out _ (B)).mono ?_
  rintro e W2 ⟨rfl, hw⟩
  subst hw
  go_wp2_with fail
  go_ret
  exact ⟨rfl, B⟩

theorem opened_none (p : Option Addr) (w : World) (h : NoneP w p) : Calls Tryz.prog 21 #[.pointer p] w fun e w' => e = .returned (.slice none 0 0) ∧ Below w.heap.size w w' := by
  have HN := Lib.hid h
  have B := (Below.refl w.heap.size w).alloc (Nat.le_refl _) (.cells #[.pointer p] 25)
  clear h
  go_enter Tryz.func21, Tryz.ntmps21
  go_wp2_with fail
  refine (HN.out _ (Below.refl _ _)).mono ?_
  rintro e W2 ⟨rfl, hw⟩
  subst hw
  go_wp2_with fail
  go_ret
  exact ⟨rfl, Below.refl _ _⟩

theorem clone_none (p : Option Addr) (w : World) (h : NoneP w p) : Calls Tryz.prog 31 #[.pointer p] w fun e w' => e = .returned (.pointer none) ∧ Below w.heap.size w w' := by
  have HN := Lib.hid h
  have B := (Below.refl w.heap.size w).alloc (Nat.le_refl _) (.cells #[.pointer p] 25)
  clear h
  go_enter Tryz.func31, Tryz.ntmps31
  go_wp2_with fail
  refine (HN.out _ (Below.refl _ _)).mono ?_
  rintro e W2 ⟨rfl, hw⟩
  subst hw
  go_wp2_with fail
  go_ret
  exact ⟨rfl, Below.refl _ _⟩

theorem again_none (p : Option Addr) (w : World) (h : NoneP w p) : Calls Tryz.prog 32 #[.pointer p] w fun e w' => e = .returned (.tuple #[]) ∧ Below w.heap.size w w' := by
  have HN := Lib.hid h
  have B := (Below.refl w.heap.size w).alloc (Nat.le_refl _) (.cells #[.pointer p] 25)
  clear h
  go_enter Tryz.func32, Tryz.ntmps32
  go_wp2_with fail
  refine (HN.out _ (Below.refl _ _)).mono ?_
  rintro e W2 ⟨rfl, hw⟩
  subst hw
  go_wp2_with fail
  refine bodyPost_ret (v := .tuple #[]) (by simp [results, Tryz.results32, go_sem]) rfl ?_
  exact ⟨rfl, Below.refl _ _⟩

end Go.Proofs.YtppdihpobokfnaaGreatDoor
