/- A part of a proof. -/
import Derived.Test.YtppdihpobokfnaaGreatDoorGW
import Derived.Shelf.Abstract
set_option linter.unusedVariables false
set_option linter.unusedSimpArgs false
set_option maxRecDepth 100000
namespace Go.Proofs.YtppdihpobokfnaaGreatDoor
open Go.RowKit Go.Joins
open Go.Maps
theorem fn_ins {V : World} {b n : Nat} {D : DataW Value} (h : V.ownsMap Tryz.prog 3 heldV b n D) (hn : n < 100) (i : Int) (hi : 0 ≤ i ∧ i ≤ 100) (f : Value) : ∃ V', (Instr.mapUpdate 73 (.map (some b)) (.int .i64 i) f).run Tryz.prog V = .ok () V' ∧ V'.ownsMap Tryz.prog 3 heldV b (n + 1) (D.put (.int .i64 i) (.held f)) ∧ V.grownBy V' (some b) := by
 obtain ⟨k, rfl⟩ : ∃ k : Nat, i = (k : Int) := ⟨i.toNat, by omega⟩
 obtain ⟨V', h1, h2, h3⟩ := h.store keyed_int Tryz.underlying73 (by unfold maxLen; omega) (key := .int .i64 (k : Int)) (val := f) (key_nat (k := k) (by omega)) (d := .held f) (ps := []) rfl
 exact ⟨V', h1, h2, h3.grown⟩
theorem below_grown {K b : Nat} {w W W' : World} (h : Below K w W) (hg : W.grownBy W' (some b)) (hb : K ≤ b) (hK : K ≤ w.heap.size) : Below K w W' :=
 ⟨hg.os.trans h.os, hg.tape.trans h.tape, hg.output.trans h.output, Nat.le_trans h.size hg.size, fun k hk => (hg.block k (Nat.lt_of_lt_of_le hk (Nat.le_trans hK h.size)) (fun e => by cases e; omega)).trans (h.block k hk)⟩
theorem ListS.form {w W : World} {R : Rp} {v : Value} {xs : List Value} (h : ListS w R W v xs) : ∃ a n c, v = .slice a n c := by
 rcases h with ⟨_, h⟩ | ⟨g, cap, e, _⟩
 · exact ⟨none, 0, 0, h⟩
 · exact ⟨_, _, _, e⟩
theorem list_far {w W W1 W2 : World} {R : Rp} {v : Value} {xs : List Value} (h : ListS W R W1 v xs) (hz : w.heap.size + 1 < W.heap.size) (hr : ∀ g, RowAt W1 g xs → w.heap.size + 1 < g → RowAt W2 g xs) : ListS w R W2 v xs := by
 rcases h with h | ⟨g, cap, e, h1, h2, h3⟩
 · exact .inl h
 · exact .inr ⟨g, cap, e, hr g h1 (by omega), h2, by omega⟩
def tabN : Nat → Nat
 | 1 => 37
 | 2 => 38
 | 3 => 39
 | 4 => 40
 | 5 => 41
 | 6 => 42
 | 7 => 43
 | 8 => 44
 | 9 => 45
 | 10 => 46
 | 11 => 47
 | 12 => 48
 | 13 => 49
 | 14 => 50
 | 15 => 51
 | 16 => 52
 | 17 => 53
 | 18 => 54
 | 19 => 53
 | 20 => 53
 | _ => 0
def tabF (mb : Nat) (i : Nat) : Value := .func (Fn.func (tabN i)) #[.pointer (some ⟨mb, 0, none⟩)] #[]
set_option maxHeartbeats 8000000 in
theorem mdo_no (R : Rp) (m : Md) (c : Cl) (w : World) (h : MdAt w R m) (hcr : (Lit.int .i64 c.k).wf = true) (hr : ¬ (1 ≤ c.k ∧ c.k ≤ 20)) :
  Calls Tryz.prog 15 #[.pointer (some ⟨R.mb, 0, none⟩), .agg #[.int .i64 c.k, .string c.p, .string c.o, .int .i64 c.fd, .int .i64 c.n, .string c.d, .bool c.on]] w (OpG w R (failA 2, m)) := by
 have HN := Lh (fun W (hW : MdAt W R m) => mnone_row R.mb true W hW.cells.1)
 have F0 := Fr.start h c 36 33
 go_enter Tryz.func15, Tryz.ntmps15
 go_upto_region 1 with fail
 generalize (w.alloc (.cells #[.int .i64 c.k, .string c.p, .string c.o, .int .i64 c.fd, .int .i64 c.n, .string c.d, .bool c.on] 36)).alloc (.cells #[.int .i64 0, .int .i64 0, .string ⟨#[]⟩, .slice none 0 0, .int .i64 0, .int .i64 0, .int .i64 0, .bool false, .slice none 0 0, .bool false] 33) = W1 at *
 have F1 := Lh F0
 clear F0
 obtain ⟨m0, m1, m2, m3, m4⟩ := F1.out.md.cells
 go_wp2_with fail
 refine (HN.out _ F1.out.md).mono ?_
 rintro e W2 ⟨rfl, hw⟩
 subst hw
 have hmm := @run_makeMap Tryz.prog
 obtain ⟨b, hb⟩ : ∃ b, b = W1.heap.size := ⟨_, rfl⟩
 have o0 := World.ownsMap_made W1 Tryz.prog 3 heldV
 have B0 := (Below.refl W1.heap.size W1).alloc (Nat.le_refl _) (.map #[] 0)
 obtain ⟨V1, r1, o1, g1⟩ := fn_ins o0 (by omega) 1 (by omega) (.func (Fn.func 37) #[.pointer (some ⟨R.mb, 0, none⟩)] #[])
 have B1 := below_grown B0 g1 (Nat.le_refl _) (Nat.le_refl _)
 obtain ⟨V2, r2, o2, g2⟩ := fn_ins o1 (by omega) 2 (by omega) (.func (Fn.func 38) #[.pointer (some ⟨R.mb, 0, none⟩)] #[])
 have B2 := below_grown B1 g2 (Nat.le_refl _) (Nat.le_refl _)
 obtain ⟨V3, r3, o3, g3⟩ := fn_ins o2 (by omega) 3 (by omega) (.func (Fn.func 39) #[.pointer (some ⟨R.mb, 0, none⟩)] #[])
 have B3 := below_grown B2 g3 (Nat.le_refl _) (Nat.le_refl _)
 obtain ⟨V4, r4, o4, g4⟩ := fn_ins o3 (by omega) 4 (by omega) (.func (Fn.func 40) #[.pointer (some ⟨R.mb, 0, none⟩)] #[])
 have B4 := below_grown B3 g4 (Nat.le_refl _) (Nat.le_refl _)
 obtain ⟨V5, r5, o5, g5⟩ := fn_ins o4 (by omega) 5 (by omega) (.func (Fn.func 41) #[.pointer (some ⟨R.mb, 0, none⟩)] #[])
 have B5 := below_grown B4 g5 (Nat.le_refl _) (Nat.le_refl _)
 obtain ⟨V6, r6, o6, g6⟩ := fn_ins o5 (by omega) 6 (by omega) (.func (Fn.func 42) #[.pointer (some ⟨R.mb, 0, none⟩)] #[])
 have B6 := below_grown B5 g6 (Nat.le_refl _) (Nat.le_refl _)
 obtain ⟨V7, r7, o7, g7⟩ := fn_ins o6 (by omega) 7 (by omega) (.func (Fn.func 43) #[.pointer (some ⟨R.mb, 0, none⟩)] #[])
 have B7 := below_grown B6 g7 (Nat.le_refl _) (Nat.le_refl _)
 obtain ⟨V8, r8, o8, g8⟩ := fn_ins o7 (by omega) 8 (by omega) (.func (Fn.func 44) #[.pointer (some ⟨R.mb, 0, none⟩)] #[])
 have B8 := below_grown B7 g8 (Nat.le_refl _) (Nat.le_refl _)
 obtain ⟨V9, r9, o9, g9⟩ := fn_ins o8 (by omega) 9 (by omega) (.func (Fn.func 45) #[.pointer (some ⟨R.mb, 0, none⟩)] #[])
 have B9 := below_grown B8 g9 (Nat.le_refl _) (Nat.le_refl _)
 obtain ⟨V10, r10, o10, g10⟩ := fn_ins o9 (by omega) 10 (by omega) (.func (Fn.func 46) #[.pointer (some ⟨R.mb, 0, none⟩)] #[])
 have B10 := below_grown B9 g10 (Nat.le_refl _) (Nat.le_refl _)
 obtain ⟨V11, r11, o11, g11⟩ := fn_ins o10 (by omega) 11 (by omega) (.func (Fn.func 47) #[.pointer (some ⟨R.mb, 0, none⟩)] #[])
 have B11 := below_grown B10 g11 (Nat.le_refl _) (Nat.le_refl _)
 obtain ⟨V12, r12, o12, g12⟩ := fn_ins o11 (by omega) 12 (by omega) (.func (Fn.func 48) #[.pointer (some ⟨R.mb, 0, none⟩)] #[])
 have B12 := below_grown B11 g12 (Nat.le_refl _) (Nat.le_refl _)
 obtain ⟨V13, r13, o13, g13⟩ := fn_ins o12 (by omega) 13 (by omega) (.func (Fn.func 49) #[.pointer (some ⟨R.mb, 0, none⟩)] #[])
 have B13 := below_grown B12 g13 (Nat.le_refl _) (Nat.le_refl _)
 obtain ⟨V14, r14, o14, g14⟩ := fn_ins o13 (by omega) 14 (by omega) (.func (Fn.func 50) #[.pointer (some ⟨R.mb, 0, none⟩)] #[])
 have B14 := below_grown B13 g14 (Nat.le_refl _) (Nat.le_refl _)
 obtain ⟨V15, r15, o15, g15⟩ := fn_ins o14 (by omega) 15 (by omega) (.func (Fn.func 51) #[.pointer (some ⟨R.mb, 0, none⟩)] #[])
 have B15 := below_grown B14 g15 (Nat.le_refl _) (Nat.le_refl _)
 obtain ⟨V16, r16, o16, g16⟩ := fn_ins o15 (by omega) 16 (by omega) (.func (Fn.func 52) #[.pointer (some ⟨R.mb, 0, none⟩)] #[])
 have B16 := below_grown B15 g16 (Nat.le_refl _) (Nat.le_refl _)
 obtain ⟨V17, r17, o17, g17⟩ := fn_ins o16 (by omega) 17 (by omega) (.func (Fn.func 53) #[.pointer (some ⟨R.mb, 0, none⟩)] #[])
 have B17 := below_grown B16 g17 (Nat.le_refl _) (Nat.le_refl _)
 obtain ⟨V18, r18, o18, g18⟩ := fn_ins o17 (by omega) 18 (by omega) (.func (Fn.func 54) #[.pointer (some ⟨R.mb, 0, none⟩)] #[])
 have B18 := below_grown B17 g18 (Nat.le_refl _) (Nat.le_refl _)
 obtain ⟨V19, r19, o19, g19⟩ := fn_ins o18 (by omega) 19 (by omega) (.func (Fn.func 53) #[.pointer (some ⟨R.mb, 0, none⟩)] #[])
 have B19 := below_grown B18 g19 (Nat.le_refl _) (Nat.le_refl _)
 obtain ⟨V20, r20, o20, g20⟩ := fn_ins o19 (by omega) 20 (by omega) (.func (Fn.func 53) #[.pointer (some ⟨R.mb, 0, none⟩)] #[])
 have B20 := below_grown B19 g20 (Nat.le_refl _) (Nat.le_refl _)
 have F2 := Lh (F1.out.below B20)
 have hz1 : (zeroValue 34).run Tryz.prog V20 = .ok .nilFunc V20 := by kernel_rfl
 have hz2 : heldV .nilFunc = some (.held .nilFunc, []) := rfl
 obtain ⟨fv, ps, hlk, hfv⟩ := o20.look_ok keyed_int Tryz.underlying73 hz1 hz2 (key := .int .i64 c.k) (keyOf_int_mk Tryz.underlying3 hcr)
 obtain ⟨h11, h12⟩ := tab_found (F := tabF R.mb) (by rfl) hfv
 rw [h11, h12] at hlk
 clear h11 h12 hfv fv ps
 obtain ⟨a0, a1, a2, a3, a4, a5, a6⟩ := row7_cells F2.out.call
 clear o1 g1 o2 g2 o3 g3 o4 g4 o5 g5 o6 g6 o7 g7 o8 g8 o9 g9 o10 g10 o11 g11 o12 g12 o13 g13 o14 g14 o15 g15 o16 g16 o17 g17 o18 g18 o19 g19 o20 g20 o0 B0 B1 B2 B3 B4 B5 B6 B7 B8 B9 B10 B11 B12 B13 B14 B15 B16 B17 B18 B19 B20
 rw [if_neg hr, decide_eq_false hr] at hlk
 go_upto_region 4 with fail
 generalize V20 = V at *
 clear hmm hb r1 r2 r3 r4 r5 r6 r7 r8 r9 r10 r11 r12 r13 r14 r15 r16 r17 r18 r19 r20 hlk m0 m1 m2 m3 m4 hz1
 go_wp2_with fail
 refine (mfailed _ _).mono ?_
 rintro e W3 ⟨rfl, hb⟩
 have F3 := Lh (F2.out.below hb)
 clear hb F2
 obtain ⟨_, _, _, _, _, _, _, _, _, _, _, _, _, _, _, _, _, _, _, _⟩ := row10_all F3.out.ans
 unfold failV anV Stt.zero
 go_wp2_with fail
 refine fin10 Tryz.results15 rfl rfl F3.out.ans ?_
 · unfold OpG
   refine ⟨nilS, nilS, rfl, R, ?_, rfl, .inl ⟨rfl, rfl⟩, .inl ⟨rfl, rfl⟩⟩
   repeat (refine Mid.other ?_ F3.out.nz (by omega) _ _)
   exact F3.out.mid
set_option maxHeartbeats 8000000 in
theorem mdo_yes (R : Rp) (m : Md) (c : Cl) (w : World) (h : MdAt w R m) (hcr : (Lit.int .i64 c.k).wf = true) (hr : 1 ≤ c.k ∧ c.k ≤ 20) (f : Nat) (hf : tabN c.k.toNat = f) (HE : Enters Tryz.prog f) (r : An × Md) (HC : Hid (∀ W, MdAt W R m → Calls Tryz.prog f #[.pointer (some ⟨R.mb, 0, none⟩), .agg #[.int .i64 c.k, .string c.p, .string c.o, .int .i64 c.fd, .int .i64 c.n, .string c.d, .bool c.on]] W (OpG W R r))) :
  Calls Tryz.prog 15 #[.pointer (some ⟨R.mb, 0, none⟩), .agg #[.int .i64 c.k, .string c.p, .string c.o, .int .i64 c.fd, .int .i64 c.n, .string c.d, .bool c.on]] w (OpG w R r) := by
 have HN := Lh (fun W (hW : MdAt W R m) => mnone_row R.mb true W hW.cells.1)
 have F0 := Fr.start h c 36 33
 go_enter Tryz.func15, Tryz.ntmps15
 go_upto_region 1 with fail
 generalize (w.alloc (.cells #[.int .i64 c.k, .string c.p, .string c.o, .int .i64 c.fd, .int .i64 c.n, .string c.d, .bool c.on] 36)).alloc (.cells #[.int .i64 0, .int .i64 0, .string ⟨#[]⟩, .slice none 0 0, .int .i64 0, .int .i64 0, .int .i64 0, .bool false, .slice none 0 0, .bool false] 33) = W1 at *
 have F1 := Lh F0
 clear F0
 obtain ⟨m0, m1, m2, m3, m4⟩ := F1.out.md.cells
 go_wp2_with fail
 refine (HN.out _ F1.out.md).mono ?_
 rintro e W2 ⟨rfl, hw⟩
 subst hw
 have hmm := @run_makeMap Tryz.prog
 obtain ⟨b, hb⟩ : ∃ b, b = W1.heap.size := ⟨_, rfl⟩
 have o0 := World.ownsMap_made W1 Tryz.prog 3 heldV
 have B0 := (Below.refl W1.heap.size W1).alloc (Nat.le_refl _) (.map #[] 0)
 obtain ⟨V1, r1, o1, g1⟩ := fn_ins o0 (by omega) 1 (by omega) (.func (Fn.func 37) #[.pointer (some ⟨R.mb, 0, none⟩)] #[])
 have B1 := below_grown B0 g1 (Nat.le_refl _) (Nat.le_refl _)
 obtain ⟨V2, r2, o2, g2⟩ := fn_ins o1 (by omega) 2 (by omega) (.func (Fn.func 38) #[.pointer (some ⟨R.mb, 0, none⟩)] #[])
 have B2 := below_grown B1 g2 (Nat.le_refl _) (Nat.le_refl _)
 obtain ⟨V3, r3, o3, g3⟩ := fn_ins o2 (by omega) 3 (by omega) (.func (Fn.func 39) #[.pointer (some ⟨R.mb, 0, none⟩)] #[])
 have B3 := below_grown B2 g3 (Nat.le_refl _) (Nat.le_refl _)
 obtain ⟨V4, r4, o4, g4⟩ := fn_ins o3 (by omega) 4 (by omega) (.func (Fn.func 40) #[.pointer (some ⟨R.mb, 0, none⟩)] #[])
 have B4 := below_grown B3 g4 (Nat.le_refl _) (Nat.le_refl _)
 obtain ⟨V5, r5, o5, g5⟩ := fn_ins o4 (by omega) 5 (by omega) (.func (Fn.func 41) #[.pointer (some ⟨R.mb, 0, none⟩)] #[])
 have B5 := below_grown B4 g5 (Nat.le_refl _) (Nat.le_refl _)
 obtain ⟨V6, r6, o6, g6⟩ := fn_ins o5 (by omega) 6 (by omega) (.func (Fn.func 42) #[.pointer (some ⟨R.mb, 0, none⟩)] #[])
 have B6 := below_grown B5 g6 (Nat.le_refl _) (Nat.le_refl _)
 obtain ⟨V7, r7, o7, g7⟩ := fn_ins o6 (by omega) 7 (by omega) (.func (Fn.func 43) #[.pointer (some ⟨R.mb, 0, none⟩)] #[])
 have B7 := below_grown B6 g7 (Nat.le_refl _) (Nat.le_refl _)
 obtain ⟨V8, r8, o8, g8⟩ := fn_ins o7 (by omega) 8 (by omega) (.func (Fn.func 44) #[.pointer (some ⟨R.mb, 0, none⟩)] #[])
 have B8 := below_grown B7 g8 (Nat.le_refl _) (Nat.le_refl _)
 obtain ⟨V9, r9, o9, g9⟩ := fn_ins o8 (by omega) 9 (by omega) (.func (Fn.func 45) #[.pointer (some ⟨R.mb, 0, none⟩)] #[])
 have B9 := below_grown B8 g9 (Nat.le_refl _) (Nat.le_refl _)
 obtain ⟨V10, r10, o10, g10⟩ := fn_ins o9 (by omega) 10 (by omega) (.func (Fn.func 46) #[.pointer (some ⟨R.mb, 0, none⟩)] #[])
 have B10 := below_grown B9 g10 (Nat.le_refl _) (Nat.le_refl _)
 obtain ⟨V11, r11, o11, g11⟩ := fn_ins o10 (by omega) 11 (by omega) (.func (Fn.func 47) #[.pointer (some ⟨R.mb, 0, none⟩)] #[])
 have B11 := below_grown B10 g11 (Nat.le_refl _) (Nat.le_refl _)
 obtain ⟨V12, r12, o12, g12⟩ := fn_ins o11 (by omega) 12 (by omega) (.func (Fn.func 48) #[.pointer (some ⟨R.mb, 0, none⟩)] #[])
 have B12 := below_grown B11 g12 (Nat.le_refl _) (Nat.le_refl _)
 obtain ⟨V13, r13, o13, g13⟩ := fn_ins o12 (by omega) 13 (by omega) (.func (Fn.func 49) #[.pointer (some ⟨R.mb, 0, none⟩)] #[])
 have B13 := below_grown B12 g13 (Nat.le_refl _) (Nat.le_refl _)
 obtain ⟨V14, r14, o14, g14⟩ := fn_ins o13 (by omega) 14 (by omega) (.func (Fn.func 50) #[.pointer (some ⟨R.mb, 0, none⟩)] #[])
 have B14 := below_grown B13 g14 (Nat.le_refl _) (Nat.le_refl _)
 obtain ⟨V15, r15, o15, g15⟩ := fn_ins o14 (by omega) 15 (by omega) (.func (Fn.func 51) #[.pointer (some ⟨R.mb, 0, none⟩)] #[])
 have B15 := below_grown B14 g15 (Nat.le_refl _) (Nat.le_refl _)
 obtain ⟨V16, r16, o16, g16⟩ := fn_ins o15 (by omega) 16 (by omega) (.func (Fn.func 52) #[.pointer (some ⟨R.mb, 0, none⟩)] #[])
 have B16 := below_grown B15 g16 (Nat.le_refl _) (Nat.le_refl _)
 obtain ⟨V17, r17, o17, g17⟩ := fn_ins o16 (by omega) 17 (by omega) (.func (Fn.func 53) #[.pointer (some ⟨R.mb, 0, none⟩)] #[])
 have B17 := below_grown B16 g17 (Nat.le_refl _) (Nat.le_refl _)
 obtain ⟨V18, r18, o18, g18⟩ := fn_ins o17 (by omega) 18 (by omega) (.func (Fn.func 54) #[.pointer (some ⟨R.mb, 0, none⟩)] #[])
 have B18 := below_grown B17 g18 (Nat.le_refl _) (Nat.le_refl _)
 obtain ⟨V19, r19, o19, g19⟩ := fn_ins o18 (by omega) 19 (by omega) (.func (Fn.func 53) #[.pointer (some ⟨R.mb, 0, none⟩)] #[])
 have B19 := below_grown B18 g19 (Nat.le_refl _) (Nat.le_refl _)
 obtain ⟨V20, r20, o20, g20⟩ := fn_ins o19 (by omega) 20 (by omega) (.func (Fn.func 53) #[.pointer (some ⟨R.mb, 0, none⟩)] #[])
 have B20 := below_grown B19 g20 (Nat.le_refl _) (Nat.le_refl _)
 have F2 := Lh (F1.out.below B20)
 have hz1 : (zeroValue 34).run Tryz.prog V20 = .ok .nilFunc V20 := by kernel_rfl
 have hz2 : heldV .nilFunc = some (.held .nilFunc, []) := rfl
 obtain ⟨fv, ps, hlk, hfv⟩ := o20.look_ok keyed_int Tryz.underlying73 hz1 hz2 (key := .int .i64 c.k) (keyOf_int_mk Tryz.underlying3 hcr)
 obtain ⟨h11, h12⟩ := tab_found (F := tabF R.mb) (by rfl) hfv
 rw [h11, h12] at hlk
 clear h11 h12 hfv fv ps
 obtain ⟨a0, a1, a2, a3, a4, a5, a6⟩ := row7_cells F2.out.call
 clear o1 g1 o2 g2 o3 g3 o4 g4 o5 g5 o6 g6 o7 g7 o8 g8 o9 g9 o10 g10 o11 g11 o12 g12 o13 g13 o14 g14 o15 g15 o16 g16 o17 g17 o18 g18 o19 g19 o20 g20 o0 B0 B1 B2 B3 B4 B5 B6 B7 B8 B9 B10 B11 B12 B13 B14 B15 B16 B17 B18 B19 B20
 rw [if_pos hr, decide_eq_true hr] at hlk
 unfold tabF at hlk
 rw [hf] at hlk
 unfold Enters at HE
 go_upto_region 6 with fail
 generalize V20 = V at *
 clear hmm hb r1 r2 r3 r4 r5 r6 r7 r8 r9 r10 r11 r12 r13 r14 r15 r16 r17 r18 r19 r20 hlk m0 m1 m2 m3 m4 hz1 hf
 go_wp2_with fail
 refine (HC.out _ F2.out.md).mono ?_
 rintro e W3 ⟨ns, ls, rfl, R9, hM, hmb, hns, hls⟩
 obtain ⟨na, nn, nc, rfl⟩ := hns.form
 obtain ⟨la, ln, lc, rfl⟩ := hls.form
 have F3 := Lh (F2.out.then hM)
 have HMB := Lh hmb
 have HNS := Lh hns
 have HLS := Lh hls
 have HSZ := F2.out.size
 clear hM hmb hns hls HC F2 a0 a1 a2 a3 a4 a5 a6 HE
 obtain ⟨_, _, _, _, _, _, _, _, _, _, _, _, _, _, _, _, _, _, _, _⟩ := row10_all F3.out.ans
 unfold ansC
 go_wp2_with fail
 refine fin10 Tryz.results15 rfl rfl F3.out.ans ?_
 · unfold OpG
   refine ⟨_, _, by unfold ansC; rfl, R9, ?_, HMB.out, ?_, ?_⟩
   · repeat (refine Mid.other ?_ F3.out.nz (by omega) _ _)
     exact F3.out.mid
   · exact list_far HNS.out (by omega) (fun g hr hg => by have hne : g ≠ w.heap.size + 1 := by omega
                                                          repeat (refine RowAt.other ?_ _ _ hne)
                                                          exact hr)
   · exact list_far HLS.out (by omega) (fun g hr hg => by have hne : g ≠ w.heap.size + 1 := by omega
                                                          repeat (refine RowAt.other ?_ _ _ hne)
                                                          exact hr)
end Go.Proofs.YtppdihpobokfnaaGreatDoor
