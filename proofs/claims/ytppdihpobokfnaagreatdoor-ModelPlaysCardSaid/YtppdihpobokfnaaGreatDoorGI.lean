/- A part of a proof. -/
import Derived.Test.YtppdihpobokfnaaGreatDoorGH
import Derived.Test.YtppdihpobokfnaaGreatDoorModW31
set_option linter.unusedVariables false
set_option linter.unusedSimpArgs false
set_option maxRecDepth 100000
namespace Go.Proofs.YtppdihpobokfnaaGreatDoor
open Go.RowKit Go.Joins
def ValG (W : World) (a : Option Addr) (sz : Nat) (xss : List (List Value)) : Prop := xss = [] ∨ ∃ g o, a = some ⟨g, o, none⟩ ∧ g < W.heap.size ∧ ∀ i xs, xss[i]? = some xs → ∀ j v, xs[j]? = some v → W.cell? ⟨g, o + i * sz + j, none⟩ = some v
theorem ValG.below {W W' : World} {a : Option Addr} {sz : Nat} {xss : List (List Value)} (h : ValG W a sz xss) (hb : Below W.heap.size W W') : ValG W' a sz xss := by
 rcases h with h | ⟨g, o, e, h1, h2⟩
 · exact .inl h
 · refine .inr ⟨g, o, e, Nat.lt_of_lt_of_le h1 hb.size, fun i xs hi j v hj => ?_⟩
   rw [hb.cell (p := ⟨g, o + i * sz + j, none⟩) h1]
   exact h2 i xs hi j v hj
theorem ValG.at {W : World} {a : Option Addr} {sz : Nat} {xss : List (List Value)} (h : ValG W a sz xss) {i : Nat} {xs : List Value} (hi : xss[i]? = some xs) : ∃ g o, a = some ⟨g, o, none⟩ ∧ g < W.heap.size ∧ ∀ j v, xs[j]? = some v → W.cell? ⟨g, o + i * sz + j, none⟩ = some v := by
 rcases h with h | ⟨g, o, e, h1, h2⟩
 · rw [h] at hi; cases hi
 · exact ⟨g, o, e, h1, fun j v hj => h2 i xs hi j v hj⟩
theorem flat_at {α : Type} {f : α → List Value} {sz : Nat} (hf : ∀ x, (f x).length = sz) : ∀ (l : List α) (i : Nat) (x : α), l[i]? = some x → ∀ j v, (f x)[j]? = some v → (l.flatMap f)[i * sz + j]? = some v
 | [], i, x, h, _, _, _ => by simp at h
 | y :: l, 0, x, h, j, v, hj => by
  simp at h
  subst h
  rw [List.flatMap_cons, Nat.zero_mul, Nat.zero_add, List.getElem?_append_left (List.getElem?_eq_some_iff.1 hj).1]
  exact hj
 | y :: l, i + 1, x, h, j, v, hj => by
  have := flat_at hf l i x (by simpa using h) j v hj
  rw [List.flatMap_cons, List.getElem?_append_right (by rw [hf, Nat.succ_mul]; omega), hf, show (i + 1) * sz + j - sz = i * sz + j by rw [Nat.succ_mul]; omega]
  exact this
theorem valG_own {W : World} {base : Nat} {e : TypeId} {sz : Nat} {a : Option Addr} {n cap : Nat} {α : Type} {f : α → List Value} {l : List α} (hf : ∀ x, (f x).length = sz) (h : W.ownsRow base e sz (.slice a n cap) l.length (l.flatMap f)) : ValG W a sz (l.map f) := by
 rcases h.2 with ⟨_, h2⟩ | ⟨g, c, cur, hv, _, hh, hc, hm, hs, ht⟩
 · left
   rw [List.length_eq_zero_iff.1 h2]
   rfl
 · injection hv with hv _ _
   right
   refine ⟨g, 0, hv, (Array.getElem?_eq_some_iff.1 hh).1, fun i xs hi j v hj => ?_⟩
   rw [List.getElem?_map] at hi
   obtain ⟨x, hx, rfl⟩ := Option.map_eq_some_iff.1 hi
   have h9 := flat_at hf l i x hx j v hj
   have hlt : i * sz + j < l.length * sz := by
    have h8 := (List.getElem?_eq_some_iff.1 h9).1
    have h7 := h.1
    rw [h7] at h8
    exact h8
   rw [← ht, List.getElem?_take_of_lt hlt] at h9
   rw [World.cell?, Nat.zero_add]
   simp only [hh]
   rw [← Array.getElem?_toList]
   exact h9
set_option maxHeartbeats 2000000 in
theorem same_texts (a b : Option Addr) (ca cb : Nat) (l : List ByteArray) (w : World) (hl : l.length ≤ 1000000) (hA : ValS w a (strs l)) (hB : ValS w b (strs l)) :
  Calls Tryz.prog 34 #[.slice a l.length ca, .slice b l.length cb] w fun e w' => e = .returned (.bool true) ∧ Below w.heap.size w w' := by
 have HA := Lh hA
 have HB := Lh hB
 have hl' : (l.length : Int) ≤ 1000000 := by omega
 clear hA hB
 go_enter Tryz.func34, Tryz.ntmps34
 go_wp2_with fail
 go_loopw [5] (fun jj wr => ∃ k : Nat, k ≤ l.length ∧ jj = .int .i64 k ∧ Below w.heap.size w wr) (fun jj _ => l.length - (intOf jj).toNat)
 case atStart => exact ⟨0, by omega, rfl, Below.refl _ _⟩
 case round =>
  obtain ⟨k, hk, rfl, B⟩ := hrel
  by_cases hlt : k < l.length
  · obtain ⟨x, hx⟩ : ∃ x, l[k]? = some x := ⟨_, List.getElem?_eq_getElem hlt⟩
    obtain ⟨P, o, rfl, hP, c0⟩ := str_cell (HA.out.below B (Nat.le_refl _)) hx
    obtain ⟨Q, p, rfl, hQ, d0⟩ := str_cell (HB.out.below B (Nat.le_refl _)) hx
    have i1 : (k : Int) < (l.length : Int) := by omega
    have i2 : (0 : Int) ≤ (k : Int) := by omega
    clear hx
    go_wp2_with fail
    go_quiet (fail)
    have B2 := below_drewN B nq
    clear c0 d0
    go_wp2_with fail
    go_roundw
    case rel => exact ⟨k + 1, by omega, by go_num, B2⟩
    case measure => simp [intOf]; omega
  · obtain rfl : k = l.length := by omega
    have hnl : ¬ ((l.length : Int) < (l.length : Int)) := by omega
    go_wp2_with fail
    go_ret
    exact ⟨rfl, B⟩
set_option maxHeartbeats 2000000 in
theorem same_ints (a b : Option Addr) (ca cb : Nat) (l : List Int) (w : World) (hl : l.length ≤ 1000000) (hA : ValS w a (l.map (Value.int .i64))) (hB : ValS w b (l.map (Value.int .i64))) :
  Calls Tryz.prog 55 #[.slice a l.length ca, .slice b l.length cb] w fun e w' => e = .returned (.bool true) ∧ Below w.heap.size w w' := by
 have HA := Lh hA
 have HB := Lh hB
 have hl' : (l.length : Int) ≤ 1000000 := by omega
 clear hA hB
 go_enter Tryz.func55, Tryz.ntmps55
 go_wp2_with fail
 go_loopw [5] (fun jj wr => ∃ k : Nat, k ≤ l.length ∧ jj = .int .i64 k ∧ Below w.heap.size w wr) (fun jj _ => l.length - (intOf jj).toNat)
 case atStart => exact ⟨0, by omega, rfl, Below.refl _ _⟩
 case round =>
  obtain ⟨k, hk, rfl, B⟩ := hrel
  by_cases hlt : k < l.length
  · obtain ⟨x, hx⟩ : ∃ x, l[k]? = some x := ⟨_, List.getElem?_eq_getElem hlt⟩
    have hA := HA.out.below B (Nat.le_refl _)
    have hB := HB.out.below B (Nat.le_refl _)
    rcases hA with hA | ⟨P, o, rfl, hA⟩
    · simp at hA; rw [hA] at hlt; simp at hlt
    rcases hB with hB | ⟨Q, p, rfl, hB⟩
    · simp at hB; rw [hB] at hlt; simp at hlt
    have c0 : wr.cell? ⟨P, o + k, none⟩ = some (.int .i64 x) := hA.2 k _ (by simp [hx])
    have d0 : wr.cell? ⟨Q, p + k, none⟩ = some (.int .i64 x) := hB.2 k _ (by simp [hx])
    clear hA hB
    have i1 : (k : Int) < (l.length : Int) := by omega
    have i2 : (0 : Int) ≤ (k : Int) := by omega
    clear hx
    go_wp2_with fail
    go_quiet (fail)
    have B2 := below_drewN B nq
    clear c0 d0
    go_wp2_with fail
    go_roundw
    case rel => exact ⟨k + 1, by omega, by go_num, B2⟩
    case measure => simp [intOf]; omega
  · obtain rfl : k = l.length := by omega
    have hnl : ¬ ((l.length : Int) < (l.length : Int)) := by omega
    go_wp2_with fail
    go_ret
    exact ⟨rfl, B⟩
set_option maxHeartbeats 2000000 in
theorem same_opened (a b : Option Addr) (ca cb : Nat) (l : List Op) (w : World) (hl : l.length ≤ 1000000) (hA : ValG w a 4 (l.map opC)) (hB : ValG w b 4 (l.map opC)) :
  Calls Tryz.prog 23 #[.slice a l.length ca, .slice b l.length cb] w fun e w' => e = .returned (.bool true) ∧ Below w.heap.size w w' := by
 have HA := Lh hA
 have HB := Lh hB
 have hl' : (l.length : Int) ≤ 1000000 := by omega
 clear hA hB
 go_enter Tryz.func23, Tryz.ntmps23
 go_wp2_with fail
 go_loopw [5] (fun jj wr => ∃ k : Nat, k ≤ l.length ∧ jj = .int .i64 k ∧ Below w.heap.size w wr) (fun jj _ => l.length - (intOf jj).toNat)
 case atStart => exact ⟨0, by omega, rfl, Below.refl _ _⟩
 case round =>
  obtain ⟨k, hk, rfl, B⟩ := hrel
  by_cases hlt : k < l.length
  · obtain ⟨x, hx⟩ : ∃ x, l[k]? = some x := ⟨_, List.getElem?_eq_getElem hlt⟩
    obtain ⟨P, o, rfl, hP, hA⟩ := (HA.out.below B).at (i := k) (xs := opC x) (by rw [List.getElem?_map, hx]; rfl)
    obtain ⟨Q, p, rfl, hQ, hB⟩ := (HB.out.below B).at (i := k) (xs := opC x) (by rw [List.getElem?_map, hx]; rfl)
    have c0 := hA 0 _ rfl
    have d0 := hB 0 _ rfl
    have c1 := hA 1 _ rfl
    have d1 := hB 1 _ rfl
    have c2 := hA 2 _ rfl
    have d2 := hB 2 _ rfl
    have c3 := hA 3 _ rfl
    have d3 := hB 3 _ rfl
    rw [Nat.add_zero] at c0 d0
    clear hA hB
    have i1 : (k : Int) < (l.length : Int) := by omega
    have i2 : (0 : Int) ≤ (k : Int) := by omega
    clear hx
    go_wp2_with fail
    go_quiet (fail)
    have B2 := below_drewN B nq
    clear c0 d0 c1 d1 c2 d2 c3 d3
    go_wp2_with fail
    go_roundw
    case rel => exact ⟨k + 1, by omega, by go_num, B2⟩
    case measure => simp [intOf]; omega
  · obtain rfl : k = l.length := by omega
    have hnl : ¬ ((l.length : Int) < (l.length : Int)) := by omega
    go_wp2_with fail
    go_ret
    exact ⟨rfl, B⟩
def itC (x : It) : List Value := [.string (tx x.path), .int .i64 x.node, .int .i64 x.st.kind, .int .i64 x.st.size, .int .i64 x.st.links, .bool x.st.pin, .string (tx x.data)]
set_option maxHeartbeats 2000000 in
theorem same_view (a b : Option Addr) (ca cb : Nat) (l : List It) (w : World) (hl : l.length ≤ 1000000) (hA : ValG w a 7 (l.map itC)) (hB : ValG w b 7 (l.map itC)) :
  Calls Tryz.prog 22 #[.slice a l.length ca, .slice b l.length cb] w fun e w' => e = .returned (.bool true) ∧ Below w.heap.size w w' := by
 have HA := Lh hA
 have HB := Lh hB
 have hl' : (l.length : Int) ≤ 1000000 := by omega
 clear hA hB
 go_enter Tryz.func22, Tryz.ntmps22
 go_wp2_with fail
 go_loopw [5] (fun jj wr => ∃ k : Nat, k ≤ l.length ∧ jj = .int .i64 k ∧ Below w.heap.size w wr) (fun jj _ => l.length - (intOf jj).toNat)
 case atStart => exact ⟨0, by omega, rfl, Below.refl _ _⟩
 case round =>
  obtain ⟨k, hk, rfl, B⟩ := hrel
  by_cases hlt : k < l.length
  · obtain ⟨x, hx⟩ : ∃ x, l[k]? = some x := ⟨_, List.getElem?_eq_getElem hlt⟩
    obtain ⟨P, o, rfl, hP, hA⟩ := (HA.out.below B).at (i := k) (xs := itC x) (by rw [List.getElem?_map, hx]; rfl)
    obtain ⟨Q, p, rfl, hQ, hB⟩ := (HB.out.below B).at (i := k) (xs := itC x) (by rw [List.getElem?_map, hx]; rfl)
    have c0 := hA 0 _ rfl
    have d0 := hB 0 _ rfl
    have c1 := hA 1 _ rfl
    have d1 := hB 1 _ rfl
    have c2 := hA 2 _ rfl
    have d2 := hB 2 _ rfl
    have c3 := hA 3 _ rfl
    have d3 := hB 3 _ rfl
    have c4 := hA 4 _ rfl
    have d4 := hB 4 _ rfl
    have c5 := hA 5 _ rfl
    have d5 := hB 5 _ rfl
    have c6 := hA 6 _ rfl
    have d6 := hB 6 _ rfl
    rw [Nat.add_zero] at c0 d0
    clear hA hB
    have i1 : (k : Int) < (l.length : Int) := by omega
    have i2 : (0 : Int) ≤ (k : Int) := by omega
    clear hx
    go_wp2_with fail
    go_quiet (fail)
    have B2 := below_drewN B nq
    clear c0 d0 c1 d1 c2 d2 c3 d3 c4 d4 c5 d5 c6 d6
    go_wp2_with fail
    go_roundw
    case rel => exact ⟨k + 1, by omega, by go_num, B2⟩
    case measure => simp [intOf]; omega
  · obtain rfl : k = l.length := by omega
    have hnl : ¬ ((l.length : Int) < (l.length : Int)) := by omega
    go_wp2_with fail
    go_ret
    exact ⟨rfl, B⟩
end Go.Proofs.YtppdihpobokfnaaGreatDoor
set_option linter.unusedVariables false
set_option linter.unusedSimpArgs false
set_option maxRecDepth 100000
namespace Go.Proofs.YtppdihpobokfnaaGreatDoor
open Go.RowKit Go.Joins
set_option maxHeartbeats 4000000 in
theorem same_answer (e n : Int) (d : ByteArray) (k s l : Int) (p : Bool) (ns : List ByteArray) (ls : List Int) (a1 a2 b1 b2 : Option Addr) (c1 c2 e1 e2 : Nat) (w : World) (hn : ns.length ≤ 1000000) (hl : ls.length ≤ 1000000)
  (hA1 : ValS w a1 (strs ns)) (hA2 : ValS w a2 (strs ns)) (hB1 : ValS w b1 (ls.map (Value.int .i64))) (hB2 : ValS w b2 (ls.map (Value.int .i64))) :
  Calls Tryz.prog 17 #[.agg #[.int .i64 e, .int .i64 n, .string d, .slice a1 ns.length c1, .int .i64 k, .int .i64 s, .int .i64 l, .bool p, .slice b1 ls.length e1, .bool false], .agg #[.int .i64 e, .int .i64 n, .string d, .slice a2 ns.length c2, .int .i64 k, .int .i64 s, .int .i64 l, .bool p, .slice b2 ls.length e2, .bool false]] w fun e w' => e = .returned (.bool true) ∧ Below w.heap.size w w' := by
 have HT := Lh (fun W (hb : Below w.heap.size w W) => same_texts a1 a2 c1 c2 ns W hn (hA1.below hb (Nat.le_refl _)) (hA2.below hb (Nat.le_refl _)))
 have HI := Lh (fun W (hb : Below w.heap.size w W) => same_ints b1 b2 e1 e2 ls W hl (hB1.below hb (Nat.le_refl _)) (hB2.below hb (Nat.le_refl _)))
 have B1 := ((Below.refl w.heap.size w).alloc (Nat.le_refl _) (.cells #[.int .i64 e, .int .i64 n, .string d, .slice a1 ns.length c1, .int .i64 k, .int .i64 s, .int .i64 l, .bool p, .slice b1 ls.length e1, .bool false] 33))
 have B2 := B1.alloc B1.size (.cells #[.int .i64 e, .int .i64 n, .string d, .slice a2 ns.length c2, .int .i64 k, .int .i64 s, .int .i64 l, .bool p, .slice b2 ls.length e2, .bool false] 33)
 have HB := Lh B2
 clear hn hl hA1 hA2 hB1 hB2 B1 B2
 go_enter Tryz.func17, Tryz.ntmps17
 go_wp2_with fail
 have r1 := (rowAt_alloc w #[.int .i64 e, .int .i64 n, .string d, .slice a1 ns.length c1, .int .i64 k, .int .i64 s, .int .i64 l, .bool p, .slice b1 ls.length e1, .bool false] 33).alloc (.cells #[.int .i64 e, .int .i64 n, .string d, .slice a2 ns.length c2, .int .i64 k, .int .i64 s, .int .i64 l, .bool p, .slice b2 ls.length e2, .bool false] 33)
 have r2 := rowAt_alloc (w.alloc (.cells #[.int .i64 e, .int .i64 n, .string d, .slice a1 ns.length c1, .int .i64 k, .int .i64 s, .int .i64 l, .bool p, .slice b1 ls.length e1, .bool false] 33)) #[.int .i64 e, .int .i64 n, .string d, .slice a2 ns.length c2, .int .i64 k, .int .i64 s, .int .i64 l, .bool p, .slice b2 ls.length e2, .bool false] 33
 rw [World.size_alloc] at r2
 have HR := Lh (And.intro r1 r2)
 clear r1 r2
 generalize ((w.alloc (.cells #[.int .i64 e, .int .i64 n, .string d, .slice a1 ns.length c1, .int .i64 k, .int .i64 s, .int .i64 l, .bool p, .slice b1 ls.length e1, .bool false] 33)).alloc (.cells #[.int .i64 e, .int .i64 n, .string d, .slice a2 ns.length c2, .int .i64 k, .int .i64 s, .int .i64 l, .bool p, .slice b2 ls.length e2, .bool false] 33)) = W1 at *
 refine (HT.out _ HB.out).mono ?_
 rintro e9 W2 ⟨rfl, hb⟩
 have x1 : W2.cell? ⟨w.heap.size, 8, none⟩ = some (.slice b1 ls.length e1) := (HR.out.1.below hb HR.out.1.lt).cell 8 (by simp)
 have x2 : W2.cell? ⟨w.heap.size + 1, 8, none⟩ = some (.slice b2 ls.length e2) := (HR.out.2.below hb HR.out.2.lt).cell 8 (by simp)
 have B2 := Lh (HB.out.trans (hb.mono HB.out.size))
 clear hb HT HB HR
 go_wp2_with fail
 refine (HI.out _ B2.out).mono ?_
 rintro e9 W3 ⟨rfl, hb⟩
 have B3 := Lh (B2.out.trans (hb.mono B2.out.size))
 clear hb
 go_wp2_with fail
 go_ret
 exact ⟨rfl, B3.out⟩
end Go.Proofs.YtppdihpobokfnaaGreatDoor
set_option linter.unusedVariables false
set_option linter.unusedSimpArgs false
set_option maxRecDepth 100000
namespace Go.Proofs.YtppdihpobokfnaaGreatDoor
open Go.RowKit Go.Joins
structure Lv (w : World) (MB N : Nat) (W : World) (m : Md) (rows : List (Nat × List Value)) : Prop where
 inv : Inv N Nul m
 below : Below w.heap.size w W
 ex : ∃ R : Rp, R.mb = MB ∧ MdAt W R m ∧ (∀ b, b < w.heap.size → R.L b = none) ∧ ∀ p ∈ rows, RowAt W p.1 p.2 ∧ R.L p.1 = none
def LsIn (rows : List (Nat × List Value)) (v : Value) (xs : List Value) : Prop := (xs = [] ∧ v = nilS) ∨ ∃ g cap, v = .slice (some ⟨g, 0, none⟩) xs.length cap ∧ (g, xs) ∈ rows
theorem LsIn.form {rows : List (Nat × List Value)} {v : Value} {xs : List Value} (h : LsIn rows v xs) : ∃ a c, v = .slice a xs.length c := by
 rcases h with ⟨h1, h2⟩ | ⟨g, cap, e, _⟩
 · exact ⟨none, 0, by rw [h1]; exact h2⟩
 · exact ⟨_, _, e⟩
theorem LsIn.more {rows rows' : List (Nat × List Value)} {v : Value} {xs : List Value} (h : LsIn rows v xs) (hs : ∀ p ∈ rows, p ∈ rows') : LsIn rows' v xs := by
 rcases h with h | ⟨g, cap, e, hm⟩
 · exact .inl h
 · exact .inr ⟨g, cap, e, hs _ hm⟩
section
variable {w W W' : World} {MB N : Nat} {m : Md} {rows : List (Nat × List Value)}
theorem Lv.row (h : Lv w MB N W m rows) {b : Nat} {xs : List Value} (hm : (b, xs) ∈ rows) : RowAt W b xs := by
 obtain ⟨R, _, _, _, h4⟩ := h.ex
 exact (h4 _ hm).1
theorem Lv.under (h : Lv w MB N W m rows) (hb : Below W.heap.size W W') : Lv w MB N W' m rows := by
 obtain ⟨R, h1, h2, h3, h4⟩ := h.ex
 exact ⟨h.inv, h.below.trans (hb.mono h.below.size), R, h1, h2.below hb (Nat.le_refl _), h3, fun p hp => ⟨(h4 p hp).1.below hb (h4 p hp).1.lt, (h4 p hp).2⟩⟩
theorem Lv.alloc (h : Lv w MB N W m rows) (cs : Array Value) (t : TypeId) : Lv w MB N (W.alloc (.cells cs t)) m ((W.heap.size, cs.toList) :: rows) := by
 obtain ⟨R, h1, h2, h3, h4⟩ := h.ex
 have hb := (Below.refl W.heap.size W).alloc (Nat.le_refl _) (.cells cs t)
 refine ⟨h.inv, h.below.trans (hb.mono h.below.size), R, h1, h2.below hb (Nat.le_refl _), h3, fun p hp => ?_⟩
 rcases List.mem_cons.1 hp with rfl | hp
 · exact ⟨rowAt_alloc W cs t, h2.fresh (Nat.le_refl _)⟩
 · exact ⟨(h4 p hp).1.below hb (h4 p hp).1.lt, (h4 p hp).2⟩
theorem Lv.drop (h : Lv w MB N W m rows) {rows' : List (Nat × List Value)} (hs : ∀ p ∈ rows', p ∈ rows) : Lv w MB N W m rows' := by
 obtain ⟨R, h1, h2, h3, h4⟩ := h.ex
 exact ⟨h.inv, h.below, R, h1, h2, h3, fun p hp => h4 p (hs p hp)⟩
theorem LsIn.val (h : Lv w MB N W m rows) {a : Option Addr} {n c : Nat} {xs : List Value} (hl : LsIn rows (.slice a n c) xs) : ValS W a xs := by
 rcases hl with ⟨h1, _⟩ | ⟨g, cap, e, hm⟩
 · exact .inl h1
 · injection e with e _ _
   have hr := h.row hm
   right
   refine ⟨g, 0, e, hr.lt, fun i v hi => ?_⟩
   rw [Nat.zero_add]
   obtain ⟨hi', _⟩ := List.getElem?_eq_some_iff.1 hi
   rw [hr.cell i hi', hi]
theorem lv_do (h : Lv w MB N W m rows) (hN : N ≤ 900000) (c : Cl) (hc : (Lit.int .i64 c.k).wf = true) :
  Calls Tryz.prog 15 #[.pointer (some ⟨MB, 0, none⟩), .agg #[.int .i64 c.k, .string c.p, .string c.o, .int .i64 c.fd, .int .i64 c.n, .string c.d, .bool c.on]] W fun e W' => ∃ (na la : Option Addr) (nc lc : Nat) (rows' : List (Nat × List Value)),
   e = .returned (.agg (ansC (doP m c).1.e (doP m c).1.n (tx (doP m c).1.d) (.slice na (doP m c).1.names.length nc) (doP m c).1.st.kind (doP m c).1.st.size (doP m c).1.st.links (doP m c).1.st.pin (.slice la (doP m c).1.lens.length lc)).toArray) ∧
   Lv w MB (N + 1) W' (doP m c).2 rows' ∧ (∀ p ∈ rows, p ∈ rows') ∧ LsIn rows' (.slice na (doP m c).1.names.length nc) (strs ((doP m c).1.names.map tx)) ∧ LsIn rows' (.slice la (doP m c).1.lens.length lc) ((doP m c).1.lens.map (Value.int .i64)) := by
 obtain ⟨R, h1, h2, h3, h4⟩ := h.ex
 subst h1
 have hG := h.inv.good hN
 refine (mdo R m c W h2 hG h.inv.sorted hc).mono ?_
 rintro e W' ⟨ns, ls, rfl, R', hM, hmb, hns, hls⟩
 have l1 : (strs ((doP m c).1.names.map tx)).length = (doP m c).1.names.length := by simp [strs]
 have l2 : ((doP m c).1.lens.map (Value.int .i64)).length = (doP m c).1.lens.length := by simp
 have hold : ∀ b, b < w.heap.size → R'.L b = none := fun b hb => by
  rw [hM.ext b (Nat.lt_of_lt_of_le hb h.below.size)]
  exact h3 b hb
 have hB : Below w.heap.size w W' := h.below.trans (hM.turn.under (fun b hb => h3 b hb) h.below.size)
 have hrows : ∀ p ∈ rows, RowAt W' p.1 p.2 ∧ R'.L p.1 = none := fun p hp => hM.row (h4 p hp).1 (h4 p hp).2
 -- the rows of the lists
 have key : ∀ (v : Value) (xs : List Value), ListS W R' W' v xs → ∃ rs : List (Nat × List Value), (∀ p ∈ rs, RowAt W' p.1 p.2 ∧ R'.L p.1 = none) ∧ LsIn rs v xs := fun v xs hl => by
  rcases hl with hl | ⟨g, cap, e, q1, q2, q3⟩
  · exact ⟨[], fun p hp => (by cases hp), .inl hl⟩
  · refine ⟨[(g, xs)], fun p hp => ?_, .inr ⟨g, cap, e, by simp⟩⟩
    rw [List.mem_singleton.1 hp]
    exact ⟨q1, q2⟩
 obtain ⟨r1, p1, i1⟩ := key ns _ hns
 obtain ⟨r2, p2, i2⟩ := key ls _ hls
 obtain ⟨na, nc, rfl⟩ := i1.form
 obtain ⟨la, lc, rfl⟩ := i2.form
 rw [l1] at i1
 rw [l2] at i2
 rw [l1, l2]
 refine ⟨na, la, nc, lc, r1 ++ (r2 ++ rows), rfl, ⟨h.inv.doP hN c, hB, R', hmb, hM.md, hold, fun p hp => ?_⟩, fun p hp => by simp [hp], i1.more (fun p hp => by simp [hp]), i2.more (fun p hp => by simp [hp])⟩
 rcases List.mem_append.1 hp with hp | hp
 · exact p1 p hp
 · rcases List.mem_append.1 hp with hp | hp
   · exact p2 p hp
   · exact hrows p hp
theorem lv_opened (h : Lv w MB N W m rows) (hN : N ≤ 20000) :
  Calls Tryz.prog 21 #[.pointer (some ⟨MB, 0, none⟩)] W fun e W' => ∃ a cap, e = .returned (.slice a (openedP m).length cap) ∧ ValG W' a 4 ((openedP m).map opC) ∧ Lv w MB N W' m rows ∧ Below W.heap.size W W' := by
 obtain ⟨R, h1, h2, h3, h4⟩ := h.ex
 subst h1
 refine (mopened W h2 h.inv hN).mono ?_
 rintro e W' ⟨v, rfl, hO, hB⟩
 obtain ⟨a, cap, rfl⟩ := own_form30 hO
 exact ⟨a, cap, rfl, valG_own (fun _ => rfl) hO, h.under hB, hB⟩
theorem lv_new (w W : World) (hB : Below w.heap.size w W) (n : Nat) (hn : 8 ≤ n ∧ n ≤ 512) (rows : List (Nat × List Value)) (hr : ∀ p ∈ rows, RowAt W p.1 p.2) : Calls Tryz.prog 18 #[.int .i64 (n : Int)] W fun e W' => ∃ MB, e = .returned (.tuple #[.pointer (some ⟨MB, 0, none⟩), .int .i64 0]) ∧ Lv w MB 0 W' (newP n) rows := by
 refine (mnew n W hn).mono ?_
 rintro e W' ⟨R, rfl, h1, h2, h3⟩
 exact ⟨R.mb, rfl, Inv.new (by omega) (by omega), hB.trans (h2.mono hB.size), R, rfl, h1, fun b hb => h3 b (Nat.lt_of_lt_of_le hb hB.size), fun p hp => ⟨(hr p hp).below h2 (hr p hp).lt, h3 _ (hr p hp).lt⟩⟩
end
end Go.Proofs.YtppdihpobokfnaaGreatDoor
