/- Walks: a record encoded. -/
import Derived.Test.YtfgnemddamebaaaRecWalks3
import Derived.Test.YtfgnemddamebaaaPlainRec2
import Derived.Test.YtfgnemddamebaaaShelf
set_option linter.unusedVariables false
set_option linter.unusedSimpArgs false
set_option maxRecDepth 100000
namespace Go.Proofs.Ytfgnemddamebaaa
open Go.RowKit Go.Joins

/-- the block behind these fields of a body -/
def rstg (x : Rc) (G : List (Nat × Int)) : ByteArray := tx (recM ++ fldB [(1, x.k), (8, x.q)] ++ fldB G ++ List.replicate (115 - (fldB G).length) 0)

theorem rhead_len (x : Rc) : (recM ++ fldB [(1, x.k), (8, x.q)]).length = 13 := by simp [recM, fldB, leBytes_length]

theorem rstg_size (x : Rc) (G : List (Nat × Int)) (h : (fldB G).length ≤ 115) : (rstg x G).size = 128 := by
  rw [rstg, tx_size, List.length_append, List.length_append, rhead_len]
  simp; omega

theorem rstg_put (x : Rc) (G : List (Nat × Int)) (f : Nat × Int) (hf : fldOk f) (hl : (fldB G).length + f.1 ≤ 115) (a m v : Int) (ha : a = ((13 + (fldB G).length : Nat) : Int)) (hm : m = (f.1 : Nat)) (hv : v = f.2) (hv2 : f.2 ≤ 9223372036854775807) (W : World) :
    Calls Try.prog 40 #[.string (rstg x G), .int .i64 a, .int .i64 m, .int .i64 v] W fun e w' => e = .returned (.tuple #[.string (rstg x (G ++ [f])), .bool true]) ∧ Below W.heap.size W w' := by
  subst ha hm hv
  obtain ⟨h1, h2, h3⟩ := hf
  have e2 : List.replicate (115 - (fldB G).length) (0 : UInt8) = List.replicate f.1 0 ++ List.replicate (115 - (fldB G).length - f.1) 0 := by rw [List.replicate_append_replicate]; congr 1; omega
  have := put_over (S := recM ++ fldB [(1, x.k), (8, x.q)] ++ fldB G ++ List.replicate (115 - (fldB G).length) 0) (a := ((13 + (fldB G).length : Nat) : Int)) (m := (f.1 : Nat)) (recM ++ fldB [(1, x.k), (8, x.q)] ++ fldB G) (List.replicate f.1 0) (List.replicate (115 - (fldB G).length - f.1) 0) f.1 f.2 (by rw [e2]; simp only [List.append_assoc]) (by rw [List.length_append, rhead_len]) rfl (by simp) h1 h2 h3
  have hp := putint_any (rstg x G) ((13 + (fldB G).length : Nat) : Int) (f.1 : Nat) f.2 W (by rw [rstg_size x G (by omega)]; decide) hv2
  have hS : rstg x G = tx (recM ++ fldB [(1, x.k), (8, x.q)] ++ fldB G ++ List.replicate (115 - (fldB G).length) 0) := rfl
  rw [hS] at hp ⊢
  rw [this.1, this.2.1] at hp
  have e3 : tx (recM ++ fldB [(1, x.k), (8, x.q)] ++ fldB G ++ leBytes f.1 f.2.toNat ++ List.replicate (115 - (fldB G).length - f.1) 0) = rstg x (G ++ [f]) := by
    have e0 : fldB [f] = leBytes f.1 f.2.toNat := by simp [fldB]
    have e4 : 115 - ((fldB G).length + f.1) = 115 - (fldB G).length - f.1 := by omega
    rw [rstg, fldB_append, e0, List.length_append, leBytes_length, e4]
    simp only [List.append_assoc]
  rw [e3] at hp
  exact hp

/-- behind the magic and bytes 0 the number, then the kind -/
def rseq (x : Rc) : ByteArray := tx (recM ++ [0] ++ leBytes 8 x.q.toNat ++ List.replicate 115 0)

theorem rseq_put (q : Int) (x : Rc) (hq : q = x.q) (h0 : 0 ≤ x.q) (h1 : x.q ≤ 18446744073709551615) (W : World) :
    Calls Try.prog 28 #[.string (tx recM ++ zerosB 124), .int .i64 5, .int .i64 8, .int .u64 q] W fun e w' => e = .returned (.tuple #[.string (rseq x), .bool true]) ∧ Below W.heap.size W w' := by
  subst hq
  have e8 : (256 : Nat) ^ 8 = 18446744073709551616 := by decide
  have hS : tx recM ++ zerosB 124 = tx (recM ++ [0] ++ List.replicate 8 0 ++ List.replicate 115 0) := by
    rw [zerosB, tx_app]
    congr 1
  have := put_over (S := recM ++ [0] ++ List.replicate 8 0 ++ List.replicate 115 0) (a := 5) (m := 8) (recM ++ [0]) (List.replicate 8 0) (List.replicate 115 0) 8 x.q rfl rfl rfl (by simp) (by simp) h0 (by omega)
  rw [hS]
  have hp := put_any (tx (recM ++ [0] ++ List.replicate 8 0 ++ List.replicate 115 0)) 5 8 x.q W (by rw [tx_size]; decide) h0 h1
  rw [this.2.2.1, this.2.2.2] at hp
  exact hp

theorem rkind_put (x : Rc) (k : Int) (hk : k = x.k) (h0 : 0 ≤ x.k) (h1 : x.k ≤ 255) (W : World) :
    Calls Try.prog 40 #[.string (rseq x), .int .i64 4, .int .i64 1, .int .i64 k] W fun e w' => e = .returned (.tuple #[.string (rstg x []), .bool true]) ∧ Below W.heap.size W w' := by
  subst hk
  have e1 : (256 : Nat) ^ 1 = 256 := by decide
  have := put_over (S := recM ++ [0] ++ leBytes 8 x.q.toNat ++ List.replicate 115 0) (a := 4) (m := 1) recM [0] (leBytes 8 x.q.toNat ++ List.replicate 115 0) 1 x.k (by simp only [List.append_assoc]) rfl rfl (by simp) (by simp) h0 (by omega)
  have hp := putint_any (rseq x) 4 1 x.k W (by rw [rseq, tx_size]; simp [recM, leBytes_length]; decide) (by omega)
  rw [rseq] at hp ⊢
  rw [this.1, this.2.1] at hp
  have e3 : tx (recM ++ leBytes 1 x.k.toNat ++ (leBytes 8 x.q.toNat ++ List.replicate 115 0)) = rstg x [] := by
    rw [rstg, fldB_cons, fldB_cons, fldB_nil]
    simp [fldB]
  rw [e3] at hp
  exact hp

theorem rec_last {x : Rc} (h : x.ok = true) : rstg x x.body = tx x.bytes := by
  have hm := Rc.many_le h
  have e : (fldB x.fs).length = 9 + (fldB x.body).length := by
    rw [Rc.fs, fldB_cons, fldB_cons, List.length_append, List.length_append, leBytes_length, leBytes_length]; omega
  rw [rstg, Rc.bytes, Rc.many, e]
  congr 1
  rw [Rc.fs, fldB_cons, fldB_cons, fldB_cons, fldB_cons, fldB_nil]
  simp only [List.append_assoc, List.append_nil, List.nil_append]
  congr 5
  omega

theorem grown_below2 {w0 w w' : World} {K base : Nat} (h : Below base w0 w) (hg : w.grownBy w' (some K)) (hr : base ≤ K) (hB : base ≤ w.heap.size) : Below base w0 w' :=
  h.trans ⟨hg.os, hg.tape, hg.output, hg.size, fun k hk => hg.block k (by omega) (fun e => by injection e; omega)⟩

theorem zeros124 : (⟨(Lib.repeatL (ByteArray.mk #[0]).data.toList 124).toArray⟩ : ByteArray) = zerosB 124 := by decide +kernel

/-- the fields behind i numbers -/
def rG (x : Rc) (i : Nat) : List (Nat × Int) := (1, (x.hs.length : Int)) :: (x.hs.take i).map (fun z => (2, z))
theorem rG_len (x : Rc) (i : Nat) (hi : i ≤ x.hs.length) : (fldB (rG x i)).length = 1 + 2 * i := by
  rw [rG, fldB_cons, List.length_append, leBytes_length, fldB_same, List.length_take, Nat.min_eq_left hi]
theorem rG_next (x : Rc) (i : Nat) (b : Int) (hb : x.hs[i]? = some b) : rG x i ++ [(2, b)] = rG x (i + 1) := by
  obtain ⟨hi, e⟩ := List.getElem?_eq_some_iff.1 hb
  rw [rG, rG, List.take_succ_eq_append_getElem hi, List.map_append, e]
  rfl
/-- .. and i marks -/
def rH (x : Rc) (i : Nat) : List (Nat × Int) := rG x x.hs.length ++ (x.ms.take i).map (fun b => (1, pinI b))
theorem rH_len (x : Rc) (i : Nat) (hi : i ≤ x.ms.length) : (fldB (rH x i)).length = 1 + 2 * x.hs.length + i := by
  rw [rH, fldB_append, List.length_append, rG_len x _ (Nat.le_refl _), ms_len, List.length_take, Nat.min_eq_left hi]
theorem rH_next (x : Rc) (i : Nat) (b : Bool) (hb : x.ms[i]? = some b) : rH x i ++ [(1, pinI b)] = rH x (i + 1) := by
  obtain ⟨hi, e⟩ := List.getElem?_eq_some_iff.1 hb
  rw [rH, rH, List.take_succ_eq_append_getElem hi, List.map_append, e, List.append_assoc]
  rfl
theorem rH_zero (x : Rc) : rH x 0 = rG x x.hs.length := by simp [rH]
theorem rH_last (x : Rc) : rH x x.ms.length = (1, (x.hs.length : Int)) :: (x.hs.map (fun z => (2, z)) ++ x.ms.map (fun b => (1, pinI b))) := by
  rw [rH, rG, List.take_of_length_le (Nat.le_refl _), List.take_of_length_le (Nat.le_refl _)]
  rfl
theorem bools_at {w : World} {B o : Nat} {ms : List Bool} (h : ValAt w B o (ms.map Value.bool)) {k : Nat} {b : Bool} (hb : ms[k]? = some b) : w.cell? ⟨B, o + k, none⟩ = some (.bool b) :=
  h.2 k _ (by simp [hb])

/-- the record's block, and all below -/
theorem rec_keep {w W W' : World} {K : Nat} {v0 v1 v2 v3 v4 v5 : Value} (h : W.cell? ⟨K, 1, none⟩ = some v1 ∧ RowAt W K [v0, v1, v2, v3, v4, v5] ∧ Below w.heap.size w W ∧ w.heap.size ≤ W.heap.size) (hb : Below W.heap.size W W') : W'.cell? ⟨K, 1, none⟩ = some v1 ∧ RowAt W' K [v0, v1, v2, v3, v4, v5] ∧ Below w.heap.size w W' ∧ w.heap.size ≤ W'.heap.size := by
  obtain ⟨_, hr, h1, h2⟩ := h
  have hr' := hr.below hb hr.lt
  exact ⟨hr'.cell 1 (by simp), hr', below_chain h1 hb h2, Nat.le_trans h2 hb.size⟩
theorem rec_ends {w W : World} {K : Nat} {v0 v1 v2 v3 v4 v5 : Value} (h : W.cell? ⟨K, 1, none⟩ = some v1 ∧ RowAt W K [v0, v1, v2, v3, v4, v5] ∧ Below w.heap.size w W ∧ w.heap.size ≤ W.heap.size) : RowAt W K [v0, v1, v2, v3, v4, v5] ∧ Below w.heap.size w W := ⟨h.2.1, h.2.2.1⟩

set_option maxHeartbeats 2000000 in
theorem recenc_yes (x : Rc) (ah : Option Addr) (ch : Nat) (am : Option Addr) (cm : Nat) (w : World) (hf : x.fit) (hS : RcS w x ah am) (h : x.ok = true) :
    Calls Try.prog 11 #[rcV x ah ch am cm] w fun e w' => e = .returned (.tuple #[.string (tx x.bytes), .int .i64 0]) ∧ Below w.heap.size w w' := by
  have hm := Rc.many_le h
  have hmany := Rc.many_eq x
  have hfs := Rc.fs_ok h hf
  have hk14 : 1 ≤ x.k ∧ x.k ≤ 4 := by
    rcases x.ok_iff.1 h with ⟨a, _⟩ | ⟨a, _⟩ | ⟨a, _⟩ | ⟨a, _⟩ <;> omega
  have hlen : x.hs.length ≤ 28 ∧ x.ms.length ≤ 24 := by
    rcases x.ok_iff.1 h with ⟨a, _, _, _, b, c⟩ | ⟨a, _, _, _, _, b, c⟩ | ⟨a, _, _, _, _, b, c⟩ | ⟨a, _, b, c⟩
    · rw [b, c]; simp
    · omega
    · rw [c]; simp; omega
    · rw [b, c]; simp
  have HC1 := Lib.hid (fun W (hb : Below w.heap.size w W) => by have := may08_any x ah ch am cm W (by omega) (by omega) (hS.below hb (Nat.le_refl _)); rw [h] at this; exact this : ∀ W, Below w.heap.size w W → Calls Try.prog 27 #[rcV x ah ch am cm] W fun e w' => e = .returned (.bool true) ∧ Below W.heap.size W w')
  have HC2 := Lib.hid (fun W => by have := Try.strings_Repeat ⟨#[0]⟩ 124 W (by decide) (by decide); rw [zeros124] at this; exact this : ∀ W, Calls Try.prog 29 #[.string ⟨#[0]⟩, .int .i64 124] W fun e w' => e = .returned (.string (zerosB 124)) ∧ Below W.heap.size W w')
  have HC3 := Lib.hid (fun W => rseq_put x.q x rfl hf.1 hf.2.1 W)
  have HC4 := Lib.hid (fun W => rkind_put x x.k rfl (by omega) (by omega) W)
  have HP := Lib.hid (fun G f (hf : fldOk f) (hl : (fldB G).length + f.1 ≤ 115) a m v ha hm hv hv2 W => rstg_put x G f hf hl a m v ha hm hv hv2 W)
  have HL := Lib.hid (rec_last h)
  have hB0 : Below w.heap.size w (w.alloc (.cells (rcells x.k x.q x.at_ ah x.hs.length ch am x.ms.length cm x.sum) 27)) := (Below.refl w.heap.size w).alloc (Nat.le_refl _) _
  have hr0 := rowAt_alloc w (rcells x.k x.q x.at_ ah x.hs.length ch am x.ms.length cm x.sum) 27
  have hz := zerosB_size 124
  have HF := Lib.hid hfs
  have HM := Lib.hid hmany
  have hn := hlen.1
  have hn2 := hlen.2
  clear hmany hfs hm hlen
  go_enter Try.func11, Try.ntmps11
  go_wp2_with fail
  refine (HC1.out _ hB0).mono ?_
  rintro e w1 ⟨rfl, hb1⟩
  have B1 := below_chain hB0 hb1 hB0.size
  have r1 := hr0.below hb1 hr0.lt
  clear hr0 hb1 hB0
  have c1 : w1.cell? ⟨w.heap.size, 1, none⟩ = some (.int .u64 x.q) := r1.cell 1 (by simp)
  have B1s : w.heap.size ≤ w1.heap.size := B1.size
  have hl1 := r1.lt
  go_wp2_with fail
  go_region_held3 (fun w' => w'.cell? ⟨w.heap.size, 1, none⟩ = some (.int .u64 x.q) ∧ RowAt w' w.heap.size [.int .i64 x.k, .int .u64 x.q, .int .i64 x.at_, .slice ah x.hs.length ch, .slice am x.ms.length cm, .int .u32 x.sum] ∧ Below w.heap.size w w' ∧ w.heap.size ≤ w'.heap.size) (first | (exact rec_keep ⟨c1, r1, B1, B1s⟩ ((Below.refl _ _).drew)) | (exact rec_keep (by assumption) (by assumption)))
    (first | (go_at_call 29; refine (HC2.out _).mono ?_; rintro e w' ⟨rfl, hb'⟩) | (go_at_call 28; refine (HC3.out _).mono ?_; rintro e w' ⟨rfl, hb'⟩))
  obtain ⟨r2, B2⟩ := rec_ends (W := w') (by assumption)
  clear c1 r1 B1 B1s hl1
  have hl2 := r2.lt
  have c0 : w'.cell? ⟨w.heap.size, 0, none⟩ = some (.int .i64 x.k) := r2.cell 0 (by simp)
  have rw2 := rowAt_alloc w' #[.string (rseq x), .int .i64 4] 59
  go_wp2_with fail
  refine (wput_ok w'.heap.size (rseq x) (rstg x []) 4 1 x.k _ rw2 ⟨by omega, by omega⟩ ⟨by omega, by omega⟩ HC4).mono ?_
  rintro e w3 ⟨rfl, rw3, g3⟩
  have hKw : w.heap.size < w'.heap.size := hl2
  have B3 := grown_below2 (B2.alloc B2.size (.cells #[.string (rseq x), .int .i64 4] 59)) g3 (by omega) (by simp; omega)
  have r3 := (r2.alloc (.cells #[.string (rseq x), .int .i64 4] 59)).grown g3 (by intro e; injection e; omega)
  clear c0 rw2 g3 B2 r2 hl2
  generalize w'.heap.size = K at *
  have d1 : w3.cell? ⟨K, 1, none⟩ = some (.int .i64 (4 + 1)) := rw3.cell 1 (by simp)
  have f1 := rw3.frozen 1 (by simp)
  have l3 := rw3.lt
  have m3 := r3.lt
  have c0 : w3.cell? ⟨w.heap.size, 0, none⟩ = some (.int .i64 x.k) := r3.cell 0 (by simp)
  have rw4 := rw3.set 1 (.int .i64 13)
  have r4 := r3.other ⟨K, 1, none⟩ (.int .i64 13) (by simp; omega)
  have B4 : Below w.heap.size w (w3.setCell ⟨K, 1, none⟩ (.int .i64 13)) := B3.setCell (by simp; omega) _
  have rw4' : RowAt (w3.setCell ⟨K, 1, none⟩ (.int .i64 13)) K [.string (rstg x []), .int .i64 13] := rw4
  have hcases : ((x.k == 1) = true ∧ x.body = [(2, x.at_)] ∧ x.at_ ≤ 510) ∨ ((x.k == 1) = false ∧ (x.k == 4) = true ∧ x.body = [(4, x.sum)]) ∨ ((x.k == 1) = false ∧ (x.k == 4) = false ∧ x.body = (1, (x.hs.length : Int)) :: (x.hs.map (fun z => (2, z)) ++ x.ms.map (fun b => (1, pinI b)))) := by
    rcases x.ok_iff.1 h with ⟨a, _, b, _⟩ | ⟨a, _⟩ | ⟨a, _⟩ | ⟨a, _⟩
    · exact .inl ⟨by simp [a], by rw [Rc.body, if_pos a], b⟩
    · exact .inr (.inr ⟨by simp [a], by simp [a], by rw [Rc.body, if_neg (by omega), if_neg (by omega)]⟩)
    · exact .inr (.inr ⟨by simp [a], by simp [a], by rw [Rc.body, if_neg (by omega), if_neg (by omega)]⟩)
    · exact .inr (.inl ⟨by simp [a], by simp [a], by rw [Rc.body, if_neg (by omega), if_pos a]⟩)
  have HOK : Hid (∀ f ∈ x.body, fldOk f) := fun f hf => HF.out f (by simp only [Rc.fs, List.mem_cons]; exact .inr (.inr hf))
  rcases hcases with ⟨k1, hb, hat⟩ | ⟨k1, k4, hb⟩ | ⟨k1, k4, hb⟩
  · have HB := Lib.hid hb
    clear hb
    have c2 : w3.cell? ⟨w.heap.size, 2, none⟩ = some (.int .i64 x.at_) := r3.cell 2 (by simp)
    have hok := Lib.hid (HOK.out (2, x.at_) (by rw [HB.out]; simp))
    go_wp2_with fail
    refine (wput_ok K (rstg x []) (rstg x ([] ++ [(2, x.at_)])) 13 2 x.at_ _ rw4' ⟨by omega, by omega⟩ ⟨by omega, by omega⟩ (Lib.hid (fun W => HP.out [] (2, x.at_) hok.out (by simp [fldB]) _ _ _ rfl rfl rfl (by show x.at_ ≤ _; omega) W))).mono ?_
    rintro e w5 ⟨rfl, rw5, g5⟩
    have B5 := grown_below2 B4 g5 (by omega) B4.size
    have d0 : w5.cell? ⟨K, 0, none⟩ = some (.string (rstg x ([] ++ [(2, x.at_)]))) := rw5.cell 0 (by simp)
    go_wp2_with fail
    go_ret2
    rw [← HL.out, HB.out]
    exact ⟨rfl, B5⟩
  · have HB := Lib.hid hb
    clear hb
    have c5 : w3.cell? ⟨w.heap.size, 5, none⟩ = some (.int .u32 x.sum) := r3.cell 5 (by simp)
    have hok := Lib.hid (HOK.out (4, x.sum) (by rw [HB.out]; simp))
    obtain ⟨s0, s1⟩ := hf.2.2
    go_wp2_with fail
    refine (wput_ok K (rstg x []) (rstg x ([] ++ [(4, x.sum)])) 13 4 x.sum _ rw4' ⟨by omega, by omega⟩ ⟨by omega, by omega⟩ (Lib.hid (fun W => HP.out [] (4, x.sum) hok.out (by simp [fldB]) _ _ _ rfl rfl rfl (by show x.sum ≤ _; omega) W))).mono ?_
    rintro e w5 ⟨rfl, rw5, g5⟩
    have B5 := grown_below2 B4 g5 (by omega) B4.size
    have d0 : w5.cell? ⟨K, 0, none⟩ = some (.string (rstg x ([] ++ [(4, x.sum)]))) := rw5.cell 0 (by simp)
    go_wp2_with fail
    go_ret2
    rw [← HL.out, HB.out]
    exact ⟨rfl, B5⟩
  · have HB := Lib.hid hb
    clear hb
    have c3 : w3.cell? ⟨w.heap.size, 3, none⟩ = some (.slice ah x.hs.length ch) := r3.cell 3 (by simp)
    have hok := Lib.hid (HOK.out (1, (x.hs.length : Int)) (by rw [HB.out]; simp))
    go_wp2_with fail
    refine (wput_ok K (rstg x []) (rstg x ([] ++ [(1, (x.hs.length : Int))])) 13 1 (x.hs.length : Int) _ rw4' ⟨by omega, by omega⟩ ⟨by omega, by omega⟩ (Lib.hid (fun W => HP.out [] (1, (x.hs.length : Int)) hok.out (by simp [fldB]) _ _ _ rfl rfl rfl (by show (x.hs.length : Int) ≤ _; omega) W))).mono ?_
    rintro e w5 ⟨rfl, rw5, g5⟩
    have B5 := grown_below2 B4 g5 (by omega) B4.size
    have r5 := r4.grown g5 (by intro e; injection e; omega)
    clear rw4 rw4' r4 B4 g5 rw3 r3 B3 d1 f1 l3 m3 c0 c3
    have c3 : w5.cell? ⟨w.heap.size, 3, none⟩ = some (.slice ah x.hs.length ch) := r5.cell 3 (by simp)
    go_wp2_with fail
    go_loopw [43] (fun j wr => ∃ i : Nat, i ≤ x.hs.length ∧ j = .int .i64 i ∧ RowAt wr K [.string (rstg x (rG x i)), .int .i64 (14 + 2 * (i : Int))] ∧ RowAt wr w.heap.size [.int .i64 x.k, .int .u64 x.q, .int .i64 x.at_, .slice ah x.hs.length ch, .slice am x.ms.length cm, .int .u32 x.sum] ∧ Below w.heap.size w wr) (fun j _ => x.hs.length - (intOf j).toNat)
    case atStart => exact ⟨0, by omega, rfl, by simpa [rG] using rw5, r5, B5⟩
    case round =>
      clear rw5 r5 B5 c3
      obtain ⟨i, hi, rfl, rw6, r6, B6⟩ := hrel
      by_cases hlt : i < x.hs.length
      · obtain ⟨b, hb⟩ : ∃ b, x.hs[i]? = some b := ⟨_, List.getElem?_eq_getElem hlt⟩
        rcases hS.1 with h0 | ⟨B, o, rfl, hV⟩
        · have : x.hs.length = 0 := by have := congrArg List.length h0; simpa using this
          omega
        · have cb := ints_at (hV.below B6 hV.1) hb
          have hbs := HOK.out (2, b) (by rw [HB.out]; simp only [List.mem_cons, List.mem_append, List.mem_map]; exact .inr (.inl ⟨b, List.mem_of_getElem? hb, rfl⟩))
          have e2 : (256 : Nat) ^ 2 = 65536 := by decide
          have hb2 : b ≤ 65535 := by have := hbs.2.2; simp only [e2] at this; omega
          have hbs' := Lib.hid hbs
          have hl := rG_len x i hi
          have hnx := Lib.hid (rG_next x i b hb)
          have hP := Lib.hid (fun W => HP.out (rG x i) (2, b) hbs'.out (by rw [hl]; show 1 + 2 * i + 2 ≤ 115; omega) (14 + 2 * (i : Int)) 2 b (by rw [hl]; omega) rfl rfl (by show b ≤ _; omega) W)
          have hi0 : (0 : Int) ≤ (i : Int) := by omega
          have hi1 : (i : Int) < (x.hs.length : Int) := by omega
          clear hb hbs hl
          go_wp2_with fail
          refine (wput_ok K (rstg x (rG x i)) (rstg x (rG x i ++ [(2, b)])) (14 + 2 * (i : Int)) 2 b _ rw6 ⟨by omega, by omega⟩ ⟨by omega, by omega⟩ hP).mono ?_
          rintro e w7 ⟨rfl, rw7, g7⟩
          have B7 := grown_below2 B6 g7 (by omega) B6.size
          have r7 := r6.grown g7 (by intro e; injection e; omega)
          rw [hnx.out] at rw7
          go_wp2_with fail
          go_roundw
          case rel => exact ⟨i + 1, by omega, by go_num, by have e : 14 + 2 * (i : Int) + 2 = 14 + 2 * ((i + 1 : Nat) : Int) := by omega
                                                            rw [e] at rw7; exact rw7, r7, B7⟩
          case measure => simp [intOf]; omega
      · obtain rfl : i = x.hs.length := by omega
        have c4 : wr.cell? ⟨w.heap.size, 4, none⟩ = some (.slice am x.ms.length cm) := r6.cell 4 (by simp)
        have rw6' : RowAt wr K [.string (rstg x (rH x 0)), .int .i64 (14 + 2 * (x.hs.length : Int) + ((0 : Nat) : Int))] := by
          rw [rH_zero]
          have e : 14 + 2 * (x.hs.length : Int) + ((0 : Nat) : Int) = 14 + 2 * (x.hs.length : Int) := by omega
          rw [e]; exact rw6
        clear rw6
        go_wp2_with fail
        obtain ⟨wo, hwo⟩ : ∃ wo, wo = wr := ⟨_, rfl⟩
        rw [← hwo] at rw6' r6 B6 c4 ⊢
        clear hwo
        go_loopw [54] (fun j wr => ∃ i : Nat, i ≤ x.ms.length ∧ j = .int .i64 i ∧ RowAt wr K [.string (rstg x (rH x i)), .int .i64 (14 + 2 * (x.hs.length : Int) + (i : Int))] ∧ RowAt wr w.heap.size [.int .i64 x.k, .int .u64 x.q, .int .i64 x.at_, .slice ah x.hs.length ch, .slice am x.ms.length cm, .int .u32 x.sum] ∧ Below w.heap.size w wr) (fun j _ => x.ms.length - (intOf j).toNat)
        case atStart => exact ⟨0, by omega, rfl, rw6', r6, B6⟩
        case round =>
          clear rw6' r6 B6 c4
          obtain ⟨i, hi, rfl, rw6, r6, B6⟩ := hrel
          by_cases hlt : i < x.ms.length
          · obtain ⟨b, hb⟩ : ∃ b, x.ms[i]? = some b := ⟨_, List.getElem?_eq_getElem hlt⟩
            rcases hS.2 with h0 | ⟨B, o, rfl, hV⟩
            · have : x.ms.length = 0 := by have := congrArg List.length h0; simpa using this
              omega
            · have cb := bools_at (hV.below B6 hV.1) hb
              have hbs := HOK.out (1, pinI b) (by rw [HB.out]; simp only [List.mem_cons, List.mem_append, List.mem_map]; exact .inr (.inr ⟨b, List.mem_of_getElem? hb, rfl⟩))
              have hbs' := Lib.hid hbs
              have hl := rH_len x i hi
              have hnx := Lib.hid (rH_next x i b hb)
              have hpb : pinI b ≤ 1 := by cases b <;> simp [pinI]
              have hP := Lib.hid (fun W => HP.out (rH x i) (1, pinI b) hbs'.out (by rw [hl]; show 1 + 2 * x.hs.length + i + 1 ≤ 115; omega) (14 + 2 * (x.hs.length : Int) + (i : Int)) 1 (pinI b) (by rw [hl]; omega) rfl rfl (by show pinI b ≤ _; omega) W)
              have hi0 : (0 : Int) ≤ (i : Int) := by omega
              have hi1 : (i : Int) < (x.ms.length : Int) := by omega
              clear hb hbs hl hpb
              cases b
              all_goals
                go_wp2_with fail
                refine (wput_ok K _ _ (14 + 2 * (x.hs.length : Int) + (i : Int)) 1 _ _ rw6 ⟨by omega, by omega⟩ ⟨by omega, by omega⟩ hP).mono ?_
                rintro e w7 ⟨rfl, rw7, g7⟩
                have B7 := grown_below2 B6 g7 (by omega) B6.size
                have r7 := r6.grown g7 (by intro e; injection e; omega)
                rw [hnx.out] at rw7
                go_wp2_with fail
                go_roundw
                case rel => exact ⟨i + 1, by omega, by go_num, by have e : 14 + 2 * (x.hs.length : Int) + (i : Int) + 1 = 14 + 2 * (x.hs.length : Int) + ((i + 1 : Nat) : Int) := by omega
                                                                  rw [e] at rw7; exact rw7, r7, B7⟩
                case measure => simp [intOf]; omega
          · obtain rfl : i = x.ms.length := by omega
            have d0 : wr.cell? ⟨K, 0, none⟩ = some (.string (rstg x (rH x x.ms.length))) := rw6.cell 0 (by simp)
            go_wp2_with fail
            go_ret2
            rw [← HL.out, HB.out, ← rH_last]
            exact ⟨rfl, B6⟩

set_option maxHeartbeats 1000000 in
theorem recenc_no (x : Rc) (ah : Option Addr) (ch : Nat) (am : Option Addr) (cm : Nat) (w : World) (hn : x.hs.length ≤ 100000) (hm : x.ms.length ≤ 100000) (hS : RcS w x ah am) (h : x.ok = false) :
    Calls Try.prog 11 #[rcV x ah ch am cm] w fun e w' => e = .returned (.tuple #[.string ⟨#[]⟩, .int .i64 2]) ∧ Below w.heap.size w w' := by
  have HC1 := Lib.hid (fun W (hb : Below w.heap.size w W) => by have := may08_any x ah ch am cm W hn hm (hS.below hb (Nat.le_refl _)); rw [h] at this; exact this : ∀ W, Below w.heap.size w W → Calls Try.prog 27 #[rcV x ah ch am cm] W fun e w' => e = .returned (.bool false) ∧ Below W.heap.size W w')
  have hB0 : Below w.heap.size w (w.alloc (.cells (rcells x.k x.q x.at_ ah x.hs.length ch am x.ms.length cm x.sum) 27)) := (Below.refl w.heap.size w).alloc (Nat.le_refl _) _
  clear h
  go_enter Try.func11, Try.ntmps11
  go_wp2_with fail
  refine (HC1.out _ hB0).mono ?_
  rintro e w1 ⟨rfl, hb1⟩
  have B1 := below_chain hB0 hb1 hB0.size
  go_wp2_with fail
  go_ret2
  exact ⟨rfl, B1⟩

end Go.Proofs.Ytfgnemddamebaaa
