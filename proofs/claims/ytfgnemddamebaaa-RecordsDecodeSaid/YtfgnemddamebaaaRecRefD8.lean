/- Walks: a record decoded: the document's answer: kind 2. -/
import Derived.Test.YtfgnemddamebaaaRecRefD
import Derived.IntWalk
import Derived.Deep.RegionHeld3
import Derived.Deep.DeepCutAuto
import Derived.Deep.CutBlock
set_option linter.unusedVariables false
set_option linter.unusedSimpArgs false
set_option maxRecDepth 100000
namespace Go.Proofs.Ytfgnemddamebaaa
open Go.RowKit Go.Joins

def KindR2 (s : ByteArray) (k q N : Int) (x : Rc) : Prop := ∃ (M : Nat) (h : Nat → Int) (M2 : Nat) (v : Nat → Bool), KindR23 2 s k q N x M h ∧ (M2 : Int) ≤ N ∧ M2 ≤ 24 ∧ (N = M2 ∨ M2 = 24) ∧ (Hid (∀ i, i < M2 → (v i = false ∧ ¬ (14 + 2 * N + (i : Int) < 128) ∨ (14 + 2 * N + (i : Int) < 128) ∧ ∃ z : Int, (∀ w, (Instr.index 9 (.string s) (.int .i64 (14 + 2 * N + (i : Int)))).run Try.prog w = .ok (.int .u8 z) w) ∧ (z == 1) = v i))) ∧ x = ⟨2, q, 0, hls h M, mls v M2, 0⟩

/-- the load of the marks, by a name of its own -/
def decLoad : Go.Op := Go.Op.load 24 (Operand.tmp 103)

set_option maxHeartbeats 32000000 in
theorem rdec8_k2 (s : ByteArray) (w : World) (hsz : s.size = 128) (k q N : Int) (hk0 : 0 ≤ k) (hk1 : k ≤ 255) (hN0 : 0 ≤ N) (hN1 : N ≤ 255) (b1 : Bool) (x : Rc) (Post : Ending → World → Prop) (Q : ByteArray) (e0 : Int)
    (ht : ((s.extract 0 4).toList == [71, 76, 74, 119]) = true)
    (i4 : ∀ w, (Instr.index 9 (.string s) (.int .i64 4)).run Try.prog w = .ok (.int .u8 k) w)
    (i13 : ∀ w, (Instr.index 9 (.string s) (.int .i64 13)).run Try.prog w = .ok (.int .u8 N) w)
    (HQ : Hid (∀ W, Calls Try.prog 37 #[.string s, .int .i64 5, .int .i64 8] W fun e w' => e = .returned (.tuple #[.int .u64 q, .bool b1]) ∧ W = w'))
    (hkk : KindR2 s k q N x)
    (HE : Hid (∀ ah ch am cm W, NewS W (w.heap.size + 1 + 1) ah (x.hs.map (Value.int .i64)) → NewS W (w.heap.size + 1 + 1) am (x.ms.map Value.bool) → Calls Try.prog 12 #[rcV x ah ch am cm] W fun e w' => e = .returned (.tuple #[.string Q, .int .i64 e0]) ∧ Below W.heap.size W w'))
    (hres : Hid (e0 = 0 ∧ (Q.toList == s.toList) = true ∧ Post = DecP8 x w ∨ e0 = 0 ∧ (Q.toList == s.toList) = false ∧ Post = DecN8 w ∨ e0 = 2 ∧ Post = DecN8 w)) :
    Calls Try.prog 16 #[.string s] w Post := by
  have z0 := rowAt_alloc w #[.int .i64 0, .int .u64 0, .int .i64 0, .slice none 0 0, .slice none 0 0, .int .u32 0] 27
  have x5 := rowAt_alloc (w.alloc (.cells #[.int .i64 0, .int .u64 0, .int .i64 0, .slice none 0 0, .slice none 0 0, .int .u32 0] 27)) #[.int .i64 k, .int .u64 q, .int .i64 0, .slice none 0 0, .slice none 0 0, .int .u32 0] 27
  have u5 := z0.alloc (.cells #[.int .i64 k, .int .u64 q, .int .i64 0, .slice none 0 0, .slice none 0 0, .int .u32 0] 27)
  have B5 : Below w.heap.size w ((w.alloc (.cells #[.int .i64 0, .int .u64 0, .int .i64 0, .slice none 0 0, .slice none 0 0, .int .u32 0] 27)).alloc (.cells #[.int .i64 k, .int .u64 q, .int .i64 0, .slice none 0 0, .slice none 0 0, .int .u32 0] 27)) := by go_grown
  rw [World.size_alloc] at x5
  clear z0
  go_enter Try.func16, Try.ntmps16
  go_wp2_with fail
  refine (HQ.out _).mono ?_
  rintro e w2 ⟨rfl, rfl⟩
  go_upto_block 0 with fail
  have L3 : w.heap.size + 1 < ((w.alloc (.cells #[.int .i64 0, .int .u64 0, .int .i64 0, .slice none 0 0, .slice none 0 0, .int .u32 0] 27)).alloc (.cells #[.int .i64 k, .int .u64 q, .int .i64 0, .slice none 0 0, .slice none 0 0, .int .u32 0] 27)).heap.size := x5.lt
  generalize (w.alloc (.cells #[.int .i64 0, .int .u64 0, .int .i64 0, .slice none 0 0, .slice none 0 0, .int .u32 0] 27)).alloc (.cells #[.int .i64 k, .int .u64 q, .int .i64 0, .slice none 0 0, .slice none 0 0, .int .u32 0] 27) = w5 at *
  clear i4 i13 ht
  go_cut [] (fun wx => CutR8 w x wx)
  case first =>
    clear HE hres HQ
    obtain ⟨c0, c1, c2, c3, c4, c5⟩ := sixr_cells x5
    obtain ⟨M, h, M2, v, ⟨hMN, hM40, hM, rfl, HG3⟩, hM2N, hM24, hM2, HV, rfl⟩ := hkk
    obtain ⟨i1, hi, hz0, hz1, hz2⟩ := info_parts info_bool8
    have HIi1 := Lib.hid (And.intro hi (And.intro hz0 (And.intro hz1 hz2)))
    clear hi hz0 hz1 hz2
    obtain ⟨i0, hi, hz0, hz1, hz2⟩ := info_parts info_int8
    have HIi0 := Lib.hid (And.intro hi (And.intro hz0 (And.intro hz1 hz2)))
    clear hi hz0 hz1 hz2
    go_upto_block 1 with fail
    clear c0 c1 c2 c3 c4 c5
    go_cut [] (fun wx => ∃ (a : Option Addr) (cap : Nat), RowAt wx w.heap.size [.int .i64 0, .int .u64 0, .int .i64 0, .slice none 0 0, .slice none 0 0, .int .u32 0] ∧ RowAt wx (w.heap.size + 1) [.int .i64 2, .int .u64 q, .int .i64 0, .slice a M cap, .slice none 0 0, .int .u32 0] ∧ Hid (NewS wx (w.heap.size + 1 + 1) a (hvs h M)) ∧ Below w.heap.size w wx)
    case first =>
      clear HV HIi1
      go_wp2_with fail
      go_loopw [12, 13, 14] (fun jj _ _ wr => ∃ (i : Nat) (a : Option Addr) (cap : Nat), i ≤ M ∧ jj = .int .i64 i ∧ RowAt wr w.heap.size [.int .i64 0, .int .u64 0, .int .i64 0, .slice none 0 0, .slice none 0 0, .int .u32 0] ∧ RowAt wr (w.heap.size + 1) [.int .i64 2, .int .u64 q, .int .i64 0, .slice a i cap, .slice none 0 0, .int .u32 0] ∧ wr.ownsRow (w.heap.size + 1 + 1) 3 1 (.slice a i cap) i (hvs h i) ∧ Below w.heap.size w wr) (fun jj _ _ _ => M - (intOf jj).toNat)
      case atStart => exact ⟨0, none, 0, by omega, rfl, u5, x5, World.ownsRow_nil _ _ _ _, B5⟩
      case round =>
        clear u5 x5 B5 L3
        obtain ⟨i, a, cap, hi, rfl, u6, x6, hown, B6⟩ := hrel
        have L0 := u6.lt
        have L1 := x6.lt
        have HK := Lib.hid hown
        have HL := Lib.hid (fun j hj => World.ownsRow.lt HK.out j hj)
        clear hown
        by_cases hlt : i < M
        · have d3 : wr.cell? ⟨w.heap.size + 1, 3, none⟩ = some (.slice a i cap) := x6.cell 3 (by simp)
          have F3 := x6.frozen 3 (by simp)
          have h1 : (i : Int) < N := by omega
          have h2 : (i : Int) < 40 := by omega
          obtain ⟨g0, g1, gb, HG⟩ := HG3.out i hlt
          have HG := Lib.hid HG
          go_wp2_with fail
          refine (HG.out _).mono ?_
          rintro e w7 ⟨rfl, rfl⟩
          have e1 : (IntKind.i64.wrap (h i)) = h i := IntWalk.i64_in _ (by omega)
          have HR2 := Lib.hid (row_news8 (rowAt_alloc wr #[.int .i64 (h i)] 3))
          go_wp2_with (at_builtin; refine wpList_append_own _ rfl _ _ 23 rfl (w.heap.size + 1 + 1) 3 i0 (.int .i64 0) 1 8 Try.underlying23 HIi0.out.1 HIi0.out.2.1 HIi0.out.2.2.1 HIi0.out.2.2.2 rfl (by decide) _ i _ rfl (HK.out.alloc _) ⟨wr.heap.size, 0, none⟩ 1 1 [.int .i64 (h i)] rfl rfl HR2.out (by intro u hu; simp at hu; subst hu; rfl) (by unfold maxLen; omega) (by omega) (by simp; omega) ?_)
          intro v' w9 hown9 hg9 _
          obtain ⟨a9, cap9, rfl⟩ := own_form hown9
          have x9 := (x6.alloc (.cells #[.int .i64 (h i)] 3)).grown hg9 (fun e => by have := (HL.out _ e).1; omega)
          have u9 := (u6.alloc (.cells #[.int .i64 (h i)] 3)).grown hg9 (fun e => by have := (HL.out _ e).1; omega)
          have C9 := x9.cell 3 (by simp)
          have F9 := x9.frozen 3 (by simp)
          have L9 := x9.lt
          have B9 := grown_below8 (B6.alloc B6.size (.cells #[.int .i64 (h i)] 3)) hg9 (fun j hj => by have := (HL.out j hj).1; omega) (by simp; have := B6.size; omega)
          have HO9 : Hid ((w9.setCell ⟨w.heap.size + 1, 3, none⟩ (.slice a9 (i + 1) cap9)).ownsRow (w.heap.size + 1 + 1) 3 1 (.slice a9 (i + 1) cap9) (i + 1) (hvs h (i + 1))) := by
            have := own_other hown9 ⟨w.heap.size + 1, 3, none⟩ (.slice a9 (i + 1) cap9) (by simp; try omega)
            rw [hvs_snoc] at this
            exact this
          clear hown9 hg9 d3 F3 HR2 e1
          go_wp2_with fail
          go_roundw
          case rel => exact ⟨i + 1, a9, cap9, by omega, by go_num, u9.other _ _ (by simp; try omega), x9.set 3 _, HO9.out, B9.setCell (by simp; try omega) _⟩
          case measure => simp [intOf]; omega
        · obtain rfl : i = M := by omega
          have hnew : NewS wr (w.heap.size + 1 + 1) a (hvs h i) := by
            obtain ⟨a', cap', hv, hn, _⟩ := own_news HK.out
            injection hv with hv1
            rw [hv1]; exact hn
          have HNW := Lib.hid hnew
          clear HK HL hnew HIi0 hlt
          have c0 : wr.cell? ⟨w.heap.size + 1, 0, none⟩ = some (.int .i64 2) := x6.cell 0 (by simp)
          have h2 : ((i : Int) = N ∧ N ≤ 40 ∨ (i : Int) = 40 ∧ 40 ≤ N) := by omega
          have h5 : (0 : Int) < N ∨ (N = 0 ∧ (i : Int) = 0) := by omega
          have HH2 := Lib.hid h2
          clear h2 h5 hM hMN hM40 c0
          rcases HH2.out with ⟨q1, q2⟩ | ⟨q1, q2⟩
          · have q3 : ¬ (i : Int) < N := by omega
            clear q1 q2
            go_wp2_with fail
            go_meet
            case rel => exact ⟨a, cap, u6, x6, HNW, B6⟩
          · by_cases q7 : (i : Int) < N
            · have q3 : ¬ (i : Int) < 40 := by omega
              clear q1 q2
              go_wp2_with fail
              go_meet
              case rel => exact ⟨a, cap, u6, x6, HNW, B6⟩
            · clear q1 q2
              go_wp2_with fail
              go_meet
              case rel => exact ⟨a, cap, u6, x6, HNW, B6⟩
    case rest =>
      clear u5 x5 B5 L3 HIi0 HG3 hM hMN hM40
      obtain ⟨a, cap, u6, x6, HNW, B6⟩ := hcut
      have L0 := u6.lt
      have L1 := x6.lt
      generalize hwr : wc = wr at *
      clear hwr
      go_wp2_with fail
      have HS0 : wr.heap.size ≤ wr.heap.size := Nat.le_refl _
      generalize hBS : wr.heap.size = BS at HS0
      have hBS' : w.heap.size + 1 < BS := by omega
      have HNB : Hid (NewS wr (w.heap.size + 1 + 1) a (hvs h M) ∧ ∀ g, a = some ⟨g, 0, none⟩ → M = 0 ∨ g < BS) := by
        have hn := HNW.out
        refine ⟨hn, fun g hg => ?_⟩
        rcases hn with e | ⟨g', e, _, hr⟩
        · left; simpa [hvs] using e
        · right; rw [hg] at e; injection e with e; injection e with e; have := hr.lt; omega
      have HS1 : BS ≤ wr.heap.size := by omega
      clear HNW L0 L1 hBS HS0
      go_loopw [15] (fun jj wr => ∃ (j : Nat) (a2 : Option Addr) (cap2 : Nat), j ≤ M2 ∧ jj = .int .i64 j ∧ RowAt wr w.heap.size [.int .i64 0, .int .u64 0, .int .i64 0, .slice none 0 0, .slice none 0 0, .int .u32 0] ∧ RowAt wr (w.heap.size + 1) [.int .i64 2, .int .u64 q, .int .i64 0, .slice a M cap, .slice a2 j cap2, .int .u32 0] ∧ wr.ownsRow BS 4 1 (.slice a2 j cap2) j (mvs v j) ∧ Hid (NewS wr (w.heap.size + 1 + 1) a (hvs h M) ∧ ∀ g, a = some ⟨g, 0, none⟩ → M = 0 ∨ g < BS) ∧ BS ≤ wr.heap.size ∧ Below w.heap.size w wr) (fun jj _ => M2 - (intOf jj).toNat)
      case atStart => exact ⟨0, none, 0, by omega, rfl, u6, x6, World.ownsRow_nil _ _ _ _, HNB, HS1, B6⟩
      case round =>
        clear u6 x6 B6 HNB HS1
        obtain ⟨j, a2, cap2, hj, rfl, u6, x6, hown, HNB, HS1, B6⟩ := hrel
        have L0 := u6.lt
        have L1 := x6.lt
        have HK := Lib.hid hown
        have HL := Lib.hid (fun j hj => World.ownsRow.lt HK.out j hj)
        clear hown
        have c0 : wr.cell? ⟨w.heap.size + 1, 0, none⟩ = some (.int .i64 2) := x6.cell 0 (by simp)
        by_cases hlt : j < M2
        · have d3 : wr.cell? ⟨w.heap.size + 1, 4, none⟩ = some (.slice a2 j cap2) := x6.cell 4 (by simp)
          have h1 : (j : Int) < N := by omega
          have h2 : (j : Int) < 24 := by omega
          have e1 : IntKind.i64.wrap (2 * N) = 2 * N := IntWalk.i64_in _ (by omega)
          have e2 : IntKind.i64.wrap (14 + 2 * N) = 14 + 2 * N := IntWalk.i64_in _ (by omega)
          have e3 : IntKind.i64.wrap (14 + 2 * N + (j : Int)) = 14 + 2 * N + (j : Int) := IntWalk.i64_in _ (by omega)
          rcases HV.out j hlt with ⟨hvj, hc⟩ | ⟨hc, z, hz, hvj⟩
          · have hvj := Lib.hid hvj
            have hcb : decide (14 + 2 * N + (j : Int) < 128) = false := decide_eq_false (by omega)
            have hcn : ¬ (14 + 2 * N + (j : Int) < 128) := by omega
            clear hc
            have l1 : w.heap.size + 1 < wr.heap.size := L1
            have x6A := Lib.hid ((x6.alloc (.cells #[.bool false] 4)).drew)
            have u6A := Lib.hid ((u6.alloc (.cells #[.bool false] 4)).drew)
            have HOA := Lib.hid ((HK.out.alloc (.cells #[.bool false] 4)).drew)
            have HRA := Lib.hid (row_news8 (rowAt_alloc wr #[.bool false] 4).drew)
            have x6 := Lib.hid x6
            have u6 := Lib.hid u6
            have B6 := Lib.hid B6
            go_upto_region 23 with fail
            clear HV h1 h2 c0
            refine wp_region_held_drew (S := fun _ => True) (by kernel_rfl) trivial (fun hHeld => ?_)
            refine wpAnyH_take (i := 0) (oi := ({ dst := some 103, op := Op.fieldAddr 27 (Operand.tmp 6) 4, type := 0, pos := "ref.go:101", after := #[], guard := none } : Oper)) (v := ?v1) rfl (by kernel_rfl) (by kernel_rfl) (by kernel_rfl) (fun _ _ _ h => h) (Or.inl ⟨by rfl, ?hy1⟩) (by assumption) ?rest1
            case hy1 => (intro w hSw; go_simp; all_goals with_reducible rfl)
            try simp only [Act.put, List.setIfInBounds_toArray, List.set_cons_zero, List.set_cons_succ]
            refine wpAnyH_take (i := 2) (oi := ({ dst := some 105, op := Op.move (Operand.tmp 7), type := 3, pos := "ref.go:101", after := #[], guard := none } : Oper)) (v := ?v2) rfl (by kernel_rfl) (by kernel_rfl) (by kernel_rfl) (fun _ _ _ h => h) (Or.inl ⟨by rfl, ?hy2⟩) (by assumption) ?rest2
            case hy2 => (intro w hSw; go_simp; all_goals with_reducible rfl)
            try simp only [Act.put, List.setIfInBounds_toArray, List.set_cons_zero, List.set_cons_succ]
            refine wpAnyH_take (i := 3) (oi := ({ dst := some 106, op := Op.binOp BinOp.mul 3 (Operand.const (Value.int IntKind.i64 2)) (Operand.tmp 105) 3, type := 3, pos := "ref.go:101", after := #[{ on := 2, ground := Ground.data }], guard := none } : Oper)) (v := ?v3) rfl (by kernel_rfl) (by kernel_rfl) (by kernel_rfl) (fun _ _ _ h => h) (Or.inl ⟨by rfl, ?hy3⟩) (by assumption) ?rest3
            case hy3 => (intro w hSw; go_simp; all_goals with_reducible rfl)
            try simp only [Act.put, List.setIfInBounds_toArray, List.set_cons_zero, List.set_cons_succ]
            refine wpAnyH_take (i := 4) (oi := ({ dst := some 107, op := Op.binOp BinOp.add 3 (Operand.const (Value.int IntKind.i64 14)) (Operand.tmp 106) 3, type := 3, pos := "ref.go:101", after := #[{ on := 3, ground := Ground.data }], guard := none } : Oper)) (v := ?v4) rfl (by kernel_rfl) (by kernel_rfl) (by kernel_rfl) (fun _ _ _ h => h) (Or.inl ⟨by rfl, ?hy4⟩) (by assumption) ?rest4
            case hy4 => (intro w hSw; go_simp; all_goals with_reducible rfl)
            try simp only [Act.put, List.setIfInBounds_toArray, List.set_cons_zero, List.set_cons_succ]
            refine wpAnyH_take (i := 5) (oi := ({ dst := some 108, op := Op.move (Operand.tmp 15), type := 3, pos := "ref.go:101", after := #[], guard := none } : Oper)) (v := ?v5) rfl (by kernel_rfl) (by kernel_rfl) (by kernel_rfl) (fun _ _ _ h => h) (Or.inl ⟨by rfl, ?hy5⟩) (by assumption) ?rest5
            case hy5 => (intro w hSw; go_simp; all_goals with_reducible rfl)
            try simp only [Act.put, List.setIfInBounds_toArray, List.set_cons_zero, List.set_cons_succ]
            refine wpAnyH_take (i := 6) (oi := ({ dst := some 109, op := Op.binOp BinOp.add 3 (Operand.tmp 107) (Operand.tmp 108) 3, type := 3, pos := "ref.go:101", after := #[{ on := 4, ground := Ground.data }, { on := 5, ground := Ground.data }], guard := none } : Oper)) (v := ?v6) rfl (by kernel_rfl) (by kernel_rfl) (by kernel_rfl) (fun _ _ _ h => h) (Or.inl ⟨by rfl, ?hy6⟩) (by assumption) ?rest6
            case hy6 => (intro w hSw; go_simp; all_goals with_reducible rfl)
            try simp only [Act.put, List.setIfInBounds_toArray, List.set_cons_zero, List.set_cons_succ]
            refine wpAnyH_take (i := 7) (oi := ({ dst := some 110, op := Op.move (Operand.tmp 0), type := 9, pos := "ref.go:101", after := #[], guard := none } : Oper)) (v := ?v7) rfl (by kernel_rfl) (by kernel_rfl) (by kernel_rfl) (fun _ _ _ h => h) (Or.inl ⟨by rfl, ?hy7⟩) (by assumption) ?rest7
            case hy7 => (intro w hSw; go_simp; all_goals with_reducible rfl)
            try simp only [Act.put, List.setIfInBounds_toArray, List.set_cons_zero, List.set_cons_succ]
            refine wpAnyH_take (i := 8) (oi := ({ dst := some 111, op := Op.call { callee := Callee.builtin Builtin.len, args := #[Operand.tmp 110], argTypes := #[9] }, type := 3, pos := "ref.go:101", after := #[{ on := 7, ground := Ground.data }], guard := none } : Oper)) (v := ?v8) rfl (by kernel_rfl) (by kernel_rfl) (by kernel_rfl) (fun _ _ _ h => h) (Or.inl ⟨by rfl, ?hy8⟩) (by assumption) ?rest8
            case hy8 => (intro w hSw; go_simp; all_goals with_reducible rfl)
            try simp only [Act.put, List.setIfInBounds_toArray, List.set_cons_zero, List.set_cons_succ]
            refine wpAnyH_take (i := 9) (oi := ({ dst := some 112, op := Op.binOp BinOp.lss 3 (Operand.tmp 109) (Operand.tmp 111) 3, type := 4, pos := "ref.go:101", after := #[{ on := 6, ground := Ground.data }, { on := 8, ground := Ground.data }], guard := none } : Oper)) (v := ?v9) rfl (by kernel_rfl) (by kernel_rfl) (by kernel_rfl) (fun _ _ _ h => h) (Or.inl ⟨by rfl, ?hy9⟩) (by assumption) ?rest9
            case hy9 => (intro w hSw; go_simp; all_goals with_reducible rfl)
            try simp only [Act.put, List.setIfInBounds_toArray, List.set_cons_zero, List.set_cons_succ]
            refine wpAnyH_take (i := 10) (oi := ({ dst := some 113, op := Op.move (Operand.tmp 112), type := 4, pos := "ref.go:101", after := #[{ on := 9, ground := Ground.data }], guard := none } : Oper)) (v := ?v10) rfl (by kernel_rfl) (by kernel_rfl) (by kernel_rfl) (fun _ _ _ h => h) (Or.inl ⟨by rfl, ?hy10⟩) (by assumption) ?rest10
            case hy10 => (intro w hSw; go_simp; all_goals with_reducible rfl)
            try simp only [Act.put, List.setIfInBounds_toArray, List.set_cons_zero, List.set_cons_succ]
            refine wpAnyH_take (i := 11) (oi := ({ dst := some 114, op := Op.move (Operand.tmp 0), type := 9, pos := "ref.go:101", after := #[{ on := 10, ground := Ground.guard }], guard := some (10, true) } : Oper)) (v := undef) rfl (by kernel_rfl) (by kernel_rfl) (by kernel_rfl) (fun _ _ _ h => h) (Or.inr ⟨by rfl, rfl⟩) (by assumption) ?_
            try simp only [Act.put, List.setIfInBounds_toArray, List.set_cons_zero, List.set_cons_succ]
            refine wpAnyH_take (i := 12) (oi := ({ dst := some 115, op := Op.move (Operand.tmp 7), type := 3, pos := "ref.go:101", after := #[{ on := 10, ground := Ground.guard }], guard := some (10, true) } : Oper)) (v := undef) rfl (by kernel_rfl) (by kernel_rfl) (by kernel_rfl) (fun _ _ _ h => h) (Or.inr ⟨by rfl, rfl⟩) (by assumption) ?_
            try simp only [Act.put, List.setIfInBounds_toArray, List.set_cons_zero, List.set_cons_succ]
            refine wpAnyH_take (i := 13) (oi := ({ dst := some 116, op := Op.binOp BinOp.mul 3 (Operand.const (Value.int IntKind.i64 2)) (Operand.tmp 115) 3, type := 3, pos := "ref.go:101", after := #[{ on := 12, ground := Ground.data }, { on := 10, ground := Ground.guard }], guard := some (10, true) } : Oper)) (v := undef) rfl (by kernel_rfl) (by kernel_rfl) (by kernel_rfl) (fun _ _ _ h => h) (Or.inr ⟨by rfl, rfl⟩) (by assumption) ?_
            try simp only [Act.put, List.setIfInBounds_toArray, List.set_cons_zero, List.set_cons_succ]
            refine wpAnyH_take (i := 14) (oi := ({ dst := some 117, op := Op.binOp BinOp.add 3 (Operand.const (Value.int IntKind.i64 14)) (Operand.tmp 116) 3, type := 3, pos := "ref.go:101", after := #[{ on := 13, ground := Ground.data }, { on := 10, ground := Ground.guard }], guard := some (10, true) } : Oper)) (v := undef) rfl (by kernel_rfl) (by kernel_rfl) (by kernel_rfl) (fun _ _ _ h => h) (Or.inr ⟨by rfl, rfl⟩) (by assumption) ?_
            try simp only [Act.put, List.setIfInBounds_toArray, List.set_cons_zero, List.set_cons_succ]
            refine wpAnyH_take (i := 15) (oi := ({ dst := some 118, op := Op.move (Operand.tmp 15), type := 3, pos := "ref.go:101", after := #[{ on := 10, ground := Ground.guard }], guard := some (10, true) } : Oper)) (v := undef) rfl (by kernel_rfl) (by kernel_rfl) (by kernel_rfl) (fun _ _ _ h => h) (Or.inr ⟨by rfl, rfl⟩) (by assumption) ?_
            try simp only [Act.put, List.setIfInBounds_toArray, List.set_cons_zero, List.set_cons_succ]
            refine wpAnyH_take (i := 16) (oi := ({ dst := some 119, op := Op.binOp BinOp.add 3 (Operand.tmp 117) (Operand.tmp 118) 3, type := 3, pos := "ref.go:101", after := #[{ on := 14, ground := Ground.data }, { on := 15, ground := Ground.data }, { on := 10, ground := Ground.guard }], guard := some (10, true) } : Oper)) (v := undef) rfl (by kernel_rfl) (by kernel_rfl) (by kernel_rfl) (fun _ _ _ h => h) (Or.inr ⟨by rfl, rfl⟩) (by assumption) ?_
            try simp only [Act.put, List.setIfInBounds_toArray, List.set_cons_zero, List.set_cons_succ]
            refine wpAnyH_take (i := 17) (oi := ({ dst := some 120, op := Op.index 9 (Operand.tmp 114) (Operand.tmp 119), type := 5, pos := "ref.go:101", after := #[{ on := 11, ground := Ground.data }, { on := 16, ground := Ground.data }, { on := 10, ground := Ground.guard }], guard := some (10, true) } : Oper)) (v := undef) rfl (by kernel_rfl) (by kernel_rfl) (by kernel_rfl) (fun _ _ _ h => h) (Or.inr ⟨by rfl, rfl⟩) (by assumption) ?_
            try simp only [Act.put, List.setIfInBounds_toArray, List.set_cons_zero, List.set_cons_succ]
            refine wpAnyH_take (i := 18) (oi := ({ dst := some 121, op := Op.binOp BinOp.eql 5 (Operand.tmp 120) (Operand.const (Value.int IntKind.u8 1)) 5, type := 4, pos := "ref.go:101", after := #[{ on := 17, ground := Ground.data }, { on := 10, ground := Ground.guard }], guard := some (10, true) } : Oper)) (v := undef) rfl (by kernel_rfl) (by kernel_rfl) (by kernel_rfl) (fun _ _ _ h => h) (Or.inr ⟨by rfl, rfl⟩) (by assumption) ?_
            try simp only [Act.put, List.setIfInBounds_toArray, List.set_cons_zero, List.set_cons_succ]
            refine wpAnyH_take (i := 19) (oi := ({ dst := some 122, op := Op.pick (Operand.tmp 113) (Operand.tmp 121) (Operand.const (Value.bool false)), type := 4, pos := "ref.go:101", after := #[{ on := 10, ground := Ground.data }, { on := 18, ground := Ground.data }], guard := none } : Oper)) (v := ?v11) rfl (by kernel_rfl) (by kernel_rfl) (by kernel_rfl) (fun _ _ _ h => h) (Or.inl ⟨by rfl, ?hy11⟩) (by assumption) ?rest11
            case hy11 => (intro w hSw; go_simp; all_goals with_reducible rfl)
            try simp only [Act.put, List.setIfInBounds_toArray, List.set_cons_zero, List.set_cons_succ]
            refine wpAnyH_ready (rs := [1, 20]) (by kernel_rfl) (by simp) ?_
            refine AllReadyH.cons (o := ({ dst := some 104, op := Op.load 24 (Operand.tmp 103), type := 24, pos := "ref.go:101", after := #[{ on := 0, ground := Ground.data }], guard := none } : Oper)) rfl (fun K hK => ?_) (AllReadyH.cons (o := ({ dst := some 123, op := Op.buildSlice 24 1 #[(0, Operand.tmp 122)], type := 24, pos := "ref.go:101", after := #[{ on := 19, ground := Ground.data }], guard := none } : Oper)) rfl (fun K hK => ?_) AllReadyH.nil)
            · go_simp
              refine hK.out _ _ trivial (fun hHeld => ?_)
              clear hK K
              try simp only [Act.put, List.setIfInBounds_toArray, List.set_cons_zero, List.set_cons_succ]
              refine wpAnyH_ready (rs := [20]) (by kernel_rfl) (by simp) ?_
              refine AllReadyH.cons (o := ({ dst := some 123, op := Op.buildSlice 24 1 #[(0, Operand.tmp 122)], type := 24, pos := "ref.go:101", after := #[{ on := 19, ground := Ground.data }], guard := none } : Oper)) rfl (fun K hK => ?_) AllReadyH.nil
              go_simp
              refine hK.out _ _ trivial (fun hHeld => ?_)
              clear hK K
              try simp only [Act.put, List.setIfInBounds_toArray, List.set_cons_zero, List.set_cons_succ]
              refine wpAnyH_ready (rs := [21]) (by kernel_rfl) (by simp) ?_
              refine AllReadyH.cons (o := ({ dst := some 124, op := Op.call { callee := Callee.builtin Builtin.append, args := #[Operand.tmp 104, Operand.tmp 123], argTypes := #[24, 24] }, type := 24, pos := "ref.go:101", after := #[{ on := 1, ground := Ground.data }, { on := 20, ground := Ground.data }, { on := 10, ground := Ground.chain }], guard := none } : Oper)) rfl (fun K hK => ?_) AllReadyH.nil
              (refine step_append_own rfl (.tmp 104) (.tmp 123) 24 rfl BS 4 i1 (.bool false) 1 1 Try.underlying24 HIi1.out.1 HIi1.out.2.1 HIi1.out.2.2.1 HIi1.out.2.2.2 rfl (by decide) (.slice a2 j cap2) j (mvs v j) (by simp [Act.eval, Act.put]) (by first | exact HOA.out | exact (HK.out.drew.alloc _)) ⟨wr.heap.size, 0, none⟩ 1 1 [.bool false] (by simp [Act.eval, Act.put]) rfl (by first | exact HRA.out | exact row_news8 (rowAt_alloc wr.drew _ _)) (by intro u hu; simp at hu; subst hu; rfl) (by unfold maxLen; omega) (by omega) (by simp; omega) ?_; intro v' w9 hown9 hg9; obtain ⟨a9, cap9, rfl⟩ := own_form hown9; have X9 := Lib.hid (x6A.out.grown hg9 (fun e => by have := (HL.out _ e).1; omega)); have U9 := Lib.hid (u6A.out.grown hg9 (fun e => by have := (HL.out _ e).1; omega)); have C9 := X9.out.cell 4 (by simp); have F9 := X9.out.frozen 4 (by simp); have L9 := X9.out.lt; have H9 := Lib.hid (And.intro hown9 hg9); clear hown9 hg9)
              refine hK.out _ _ trivial (fun hHeld => ?_)
              clear hK K
              try simp only [Act.put, List.setIfInBounds_toArray, List.set_cons_zero, List.set_cons_succ]
              refine wpAnyH_take (i := 22) (oi := ({ dst := some 125, op := Op.fieldAddr 27 (Operand.tmp 6) 4, type := 0, pos := "ref.go:101", after := #[{ on := 0, ground := Ground.phase }, { on := 1, ground := Ground.phase }, { on := 2, ground := Ground.phase }, { on := 3, ground := Ground.phase }, { on := 4, ground := Ground.phase }, { on := 5, ground := Ground.phase }, { on := 6, ground := Ground.phase }, { on := 7, ground := Ground.phase }, { on := 8, ground := Ground.phase }, { on := 9, ground := Ground.phase }, { on := 10, ground := Ground.phase }, { on := 11, ground := Ground.phase }, { on := 12, ground := Ground.phase }, { on := 13, ground := Ground.phase }, { on := 14, ground := Ground.phase }, { on := 15, ground := Ground.phase }, { on := 16, ground := Ground.phase }, { on := 17, ground := Ground.phase }, { on := 18, ground := Ground.phase }, { on := 19, ground := Ground.phase }, { on := 20, ground := Ground.phase }, { on := 21, ground := Ground.phase }], guard := none } : Oper)) (v := ?v12) rfl (by kernel_rfl) (by kernel_rfl) (by kernel_rfl) (fun _ _ _ h => h) (Or.inl ⟨by rfl, ?hy12⟩) (by assumption) ?rest12
              case hy12 => (intro w hSw; go_simp; all_goals with_reducible rfl)
              try simp only [Act.put, List.setIfInBounds_toArray, List.set_cons_zero, List.set_cons_succ]
              refine wpAnyH_ready (rs := [23]) (by kernel_rfl) (by simp) ?_
              refine AllReadyH.cons (o := ({ dst := none, op := Op.store 24 (Operand.tmp 125) (Operand.tmp 124), type := 0, pos := "ref.go:101", after := #[{ on := 22, ground := Ground.data }, { on := 21, ground := Ground.data }, { on := 21, ground := Ground.chain }, { on := 0, ground := Ground.phase }, { on := 1, ground := Ground.phase }, { on := 2, ground := Ground.phase }, { on := 3, ground := Ground.phase }, { on := 4, ground := Ground.phase }, { on := 5, ground := Ground.phase }, { on := 6, ground := Ground.phase }, { on := 7, ground := Ground.phase }, { on := 8, ground := Ground.phase }, { on := 9, ground := Ground.phase }, { on := 10, ground := Ground.phase }, { on := 11, ground := Ground.phase }, { on := 12, ground := Ground.phase }, { on := 13, ground := Ground.phase }, { on := 14, ground := Ground.phase }, { on := 15, ground := Ground.phase }, { on := 16, ground := Ground.phase }, { on := 17, ground := Ground.phase }, { on := 18, ground := Ground.phase }, { on := 19, ground := Ground.phase }, { on := 20, ground := Ground.phase }, { on := 21, ground := Ground.phase }], guard := none } : Oper)) rfl (fun K hK => ?_) AllReadyH.nil
              go_simp
              refine hK.out _ _ trivial (fun hHeld => ?_)
              clear hK K
              try simp only [Act.put, List.setIfInBounds_toArray, List.set_cons_zero, List.set_cons_succ]
              refine wpAnyH_done (by kernel_rfl) ?_ _
              have HNB9 : Hid (NewS w9 (w.heap.size + 1 + 1) a (hvs h M) ∧ ∀ g, a = some ⟨g, 0, none⟩ → M = 0 ∨ g < BS) := by
                refine ⟨?_, HNB.out.2⟩
                have hn7' := (show NewS wr _ a _ from HNB.out.1).below (((Below.refl _ _).alloc (Nat.le_refl _) (.cells #[.bool false] 4)).drew) (Nat.le_refl _)
                rcases hn7' with e | ⟨g, e, hg1, hg2⟩
                · exact .inl e
                · rcases HNB.out.2 g e with e0 | e0
                  · left; rw [e0]; rfl
                  · exact .inr ⟨g, e, hg1, hg2.grown H9.out.2 (fun e => by have := (HL.out _ e).1; omega)⟩
              have B9 := grown_below8 ((B6.out.alloc B6.out.size (.cells #[.bool false] 4)).drew) H9.out.2 (fun j hj => by have := (HL.out j hj).1; omega) (by simp; have := B6.out.size; omega)
              have S9 : BS ≤ w9.heap.size := by have h8 := H9.out.2.size; simp at h8; omega
              have HO9 : Hid ((w9.setCell ⟨w.heap.size + 1, 4, none⟩ (.slice a9 (j + 1) cap9)).ownsRow BS 4 1 (.slice a9 (j + 1) cap9) (j + 1) (mvs v (j + 1))) := by
                have := own_other H9.out.1 ⟨w.heap.size + 1, 4, none⟩ (.slice a9 (j + 1) cap9) (by simp; try omega)
                rw [show (false : Bool) = v j from hvj.out.symm, mvs_snoc] at this
                exact this
              have u9 := U9.out
              have x9 := X9.out
              go_wp2_with fail
              go_roundw
              case rel => exact ⟨j + 1, a9, cap9, by omega, by go_num, u9.other _ _ (by simp; try omega), x9.set 4 _, HO9.out, ⟨HNB9.out.1.other _ _ (by simp; try omega), HNB9.out.2⟩, by simp; exact S9, B9.setCell (by simp; try omega) _⟩
              case measure => simp [intOf]; omega
            · go_simp
              refine hK.out _ _ trivial (fun hHeld => ?_)
              clear hK K
              try simp only [Act.put, List.setIfInBounds_toArray, List.set_cons_zero, List.set_cons_succ]
              refine wpAnyH_ready (rs := [1]) (by kernel_rfl) (by simp) ?_
              refine AllReadyH.cons (o := ({ dst := some 104, op := Op.load 24 (Operand.tmp 103), type := 24, pos := "ref.go:101", after := #[{ on := 0, ground := Ground.data }], guard := none } : Oper)) rfl (fun K hK => ?_) AllReadyH.nil
              go_simp
              refine hK.out _ _ trivial (fun hHeld => ?_)
              clear hK K
              try simp only [Act.put, List.setIfInBounds_toArray, List.set_cons_zero, List.set_cons_succ]
              refine wpAnyH_ready (rs := [21]) (by kernel_rfl) (by simp) ?_
              refine AllReadyH.cons (o := ({ dst := some 124, op := Op.call { callee := Callee.builtin Builtin.append, args := #[Operand.tmp 104, Operand.tmp 123], argTypes := #[24, 24] }, type := 24, pos := "ref.go:101", after := #[{ on := 1, ground := Ground.data }, { on := 20, ground := Ground.data }, { on := 10, ground := Ground.chain }], guard := none } : Oper)) rfl (fun K hK => ?_) AllReadyH.nil
              (refine step_append_own rfl (.tmp 104) (.tmp 123) 24 rfl BS 4 i1 (.bool false) 1 1 Try.underlying24 HIi1.out.1 HIi1.out.2.1 HIi1.out.2.2.1 HIi1.out.2.2.2 rfl (by decide) (.slice a2 j cap2) j (mvs v j) (by simp [Act.eval, Act.put]) (by first | exact HOA.out | exact (HK.out.drew.alloc _)) ⟨wr.heap.size, 0, none⟩ 1 1 [.bool false] (by simp [Act.eval, Act.put]) rfl (by first | exact HRA.out | exact row_news8 (rowAt_alloc wr.drew _ _)) (by intro u hu; simp at hu; subst hu; rfl) (by unfold maxLen; omega) (by omega) (by simp; omega) ?_; intro v' w9 hown9 hg9; obtain ⟨a9, cap9, rfl⟩ := own_form hown9; have X9 := Lib.hid (x6A.out.grown hg9 (fun e => by have := (HL.out _ e).1; omega)); have U9 := Lib.hid (u6A.out.grown hg9 (fun e => by have := (HL.out _ e).1; omega)); have C9 := X9.out.cell 4 (by simp); have F9 := X9.out.frozen 4 (by simp); have L9 := X9.out.lt; have H9 := Lib.hid (And.intro hown9 hg9); clear hown9 hg9)
              refine hK.out _ _ trivial (fun hHeld => ?_)
              clear hK K
              try simp only [Act.put, List.setIfInBounds_toArray, List.set_cons_zero, List.set_cons_succ]
              refine wpAnyH_take (i := 22) (oi := ({ dst := some 125, op := Op.fieldAddr 27 (Operand.tmp 6) 4, type := 0, pos := "ref.go:101", after := #[{ on := 0, ground := Ground.phase }, { on := 1, ground := Ground.phase }, { on := 2, ground := Ground.phase }, { on := 3, ground := Ground.phase }, { on := 4, ground := Ground.phase }, { on := 5, ground := Ground.phase }, { on := 6, ground := Ground.phase }, { on := 7, ground := Ground.phase }, { on := 8, ground := Ground.phase }, { on := 9, ground := Ground.phase }, { on := 10, ground := Ground.phase }, { on := 11, ground := Ground.phase }, { on := 12, ground := Ground.phase }, { on := 13, ground := Ground.phase }, { on := 14, ground := Ground.phase }, { on := 15, ground := Ground.phase }, { on := 16, ground := Ground.phase }, { on := 17, ground := Ground.phase }, { on := 18, ground := Ground.phase }, { on := 19, ground := Ground.phase }, { on := 20, ground := Ground.phase }, { on := 21, ground := Ground.phase }], guard := none } : Oper)) (v := ?v13) rfl (by kernel_rfl) (by kernel_rfl) (by kernel_rfl) (fun _ _ _ h => h) (Or.inl ⟨by rfl, ?hy13⟩) (by assumption) ?rest13
              case hy13 => (intro w hSw; go_simp; all_goals with_reducible rfl)
              try simp only [Act.put, List.setIfInBounds_toArray, List.set_cons_zero, List.set_cons_succ]
              refine wpAnyH_ready (rs := [23]) (by kernel_rfl) (by simp) ?_
              refine AllReadyH.cons (o := ({ dst := none, op := Op.store 24 (Operand.tmp 125) (Operand.tmp 124), type := 0, pos := "ref.go:101", after := #[{ on := 22, ground := Ground.data }, { on := 21, ground := Ground.data }, { on := 21, ground := Ground.chain }, { on := 0, ground := Ground.phase }, { on := 1, ground := Ground.phase }, { on := 2, ground := Ground.phase }, { on := 3, ground := Ground.phase }, { on := 4, ground := Ground.phase }, { on := 5, ground := Ground.phase }, { on := 6, ground := Ground.phase }, { on := 7, ground := Ground.phase }, { on := 8, ground := Ground.phase }, { on := 9, ground := Ground.phase }, { on := 10, ground := Ground.phase }, { on := 11, ground := Ground.phase }, { on := 12, ground := Ground.phase }, { on := 13, ground := Ground.phase }, { on := 14, ground := Ground.phase }, { on := 15, ground := Ground.phase }, { on := 16, ground := Ground.phase }, { on := 17, ground := Ground.phase }, { on := 18, ground := Ground.phase }, { on := 19, ground := Ground.phase }, { on := 20, ground := Ground.phase }, { on := 21, ground := Ground.phase }], guard := none } : Oper)) rfl (fun K hK => ?_) AllReadyH.nil
              go_simp
              refine hK.out _ _ trivial (fun hHeld => ?_)
              clear hK K
              try simp only [Act.put, List.setIfInBounds_toArray, List.set_cons_zero, List.set_cons_succ]
              refine wpAnyH_done (by kernel_rfl) ?_ _
              have HNB9 : Hid (NewS w9 (w.heap.size + 1 + 1) a (hvs h M) ∧ ∀ g, a = some ⟨g, 0, none⟩ → M = 0 ∨ g < BS) := by
                refine ⟨?_, HNB.out.2⟩
                have hn7' := (show NewS wr _ a _ from HNB.out.1).below (((Below.refl _ _).alloc (Nat.le_refl _) (.cells #[.bool false] 4)).drew) (Nat.le_refl _)
                rcases hn7' with e | ⟨g, e, hg1, hg2⟩
                · exact .inl e
                · rcases HNB.out.2 g e with e0 | e0
                  · left; rw [e0]; rfl
                  · exact .inr ⟨g, e, hg1, hg2.grown H9.out.2 (fun e => by have := (HL.out _ e).1; omega)⟩
              have B9 := grown_below8 ((B6.out.alloc B6.out.size (.cells #[.bool false] 4)).drew) H9.out.2 (fun j hj => by have := (HL.out j hj).1; omega) (by simp; have := B6.out.size; omega)
              have S9 : BS ≤ w9.heap.size := by have h8 := H9.out.2.size; simp at h8; omega
              have HO9 : Hid ((w9.setCell ⟨w.heap.size + 1, 4, none⟩ (.slice a9 (j + 1) cap9)).ownsRow BS 4 1 (.slice a9 (j + 1) cap9) (j + 1) (mvs v (j + 1))) := by
                have := own_other H9.out.1 ⟨w.heap.size + 1, 4, none⟩ (.slice a9 (j + 1) cap9) (by simp; try omega)
                rw [show (false : Bool) = v j from hvj.out.symm, mvs_snoc] at this
                exact this
              have u9 := U9.out
              have x9 := X9.out
              go_wp2_with fail
              go_roundw
              case rel => exact ⟨j + 1, a9, cap9, by omega, by go_num, u9.other _ _ (by simp; try omega), x9.set 4 _, HO9.out, ⟨HNB9.out.1.other _ _ (by simp; try omega), HNB9.out.2⟩, by simp; exact S9, B9.setCell (by simp; try omega) _⟩
              case measure => simp [intOf]; omega
          · have hcb : decide (14 + 2 * N + (j : Int) < 128) = true := decide_eq_true hc
            have l1 : w.heap.size + 1 < wr.heap.size := L1
            have x6A := Lib.hid ((x6.alloc (.cells #[.bool (v j)] 4)).drew)
            have u6A := Lib.hid ((u6.alloc (.cells #[.bool (v j)] 4)).drew)
            have HOA := Lib.hid ((HK.out.alloc (.cells #[.bool (v j)] 4)).drew)
            have HRA := Lib.hid (row_news8 (rowAt_alloc wr #[.bool (v j)] 4).drew)
            have x6 := Lib.hid x6
            have u6 := Lib.hid u6
            have B6 := Lib.hid B6
            go_upto_region 23 with fail
            clear HV h1 h2 c0
            have hv9 : decLoad = Go.Op.load 24 (Operand.tmp 103) := rfl
            rw [← hv9]
            go_region_held3 (fun V => V.cell? ⟨w.heap.size + 1, 0, none⟩ = some (.int .i64 2)) (first | exact x6A.out.cell 0 (by simp) | exact x6.out.drew.cell 0 (by simp) | exact (x6.out.drew.alloc _).cell 0 (by simp) | exact X9.out.cell 0 (by simp) | exact (X9.out.set 4 _).cell 0 (by simp) | (go_keep; done))
              (first | (refine step_append_own rfl (.tmp 104) (.tmp 123) 24 rfl BS 4 i1 (.bool false) 1 1 Try.underlying24 HIi1.out.1 HIi1.out.2.1 HIi1.out.2.2.1 HIi1.out.2.2.2 rfl (by decide) (.slice a2 j cap2) j (mvs v j) (by simp [Act.eval, Act.put]) (by first | exact HOA.out | exact (HK.out.drew.alloc _)) ⟨wr.heap.size, 0, none⟩ 1 1 [.bool (v j)] (by simp [Act.eval, Act.put]) rfl (by first | exact HRA.out | exact row_news8 (rowAt_alloc wr.drew _ _)) (by intro u hu; simp at hu; subst hu; rfl) (by unfold maxLen; omega) (by omega) (by simp; omega) ?_; intro v' w9 hown9 hg9; obtain ⟨a9, cap9, rfl⟩ := own_form hown9; have X9 := Lib.hid (x6A.out.grown hg9 (fun e => by have := (HL.out _ e).1; omega)); have U9 := Lib.hid (u6A.out.grown hg9 (fun e => by have := (HL.out _ e).1; omega)); have C9 := X9.out.cell 4 (by simp); have F9 := X9.out.frozen 4 (by simp); have L9 := X9.out.lt; have H9 := Lib.hid (And.intro hown9 hg9); clear hown9 hg9) | fail)
            all_goals
              have HNB9 : Hid (NewS w9 (w.heap.size + 1 + 1) a (hvs h M) ∧ ∀ g, a = some ⟨g, 0, none⟩ → M = 0 ∨ g < BS) := by
                refine ⟨?_, HNB.out.2⟩
                have hn7' := (show NewS wr _ a _ from HNB.out.1).below (((Below.refl _ _).alloc (Nat.le_refl _) (.cells #[.bool (v j)] 4)).drew) (Nat.le_refl _)
                rcases hn7' with e | ⟨g, e, hg1, hg2⟩
                · exact .inl e
                · rcases HNB.out.2 g e with e0 | e0
                  · left; rw [e0]; rfl
                  · exact .inr ⟨g, e, hg1, hg2.grown H9.out.2 (fun e => by have := (HL.out _ e).1; omega)⟩
              have B9 := grown_below8 ((B6.out.alloc B6.out.size (.cells #[.bool (v j)] 4)).drew) H9.out.2 (fun j hj => by have := (HL.out j hj).1; omega) (by simp; have := B6.out.size; omega)
              have S9 : BS ≤ w9.heap.size := by have h8 := H9.out.2.size; simp at h8; omega
              have HO9 : Hid ((w9.setCell ⟨w.heap.size + 1, 4, none⟩ (.slice a9 (j + 1) cap9)).ownsRow BS 4 1 (.slice a9 (j + 1) cap9) (j + 1) (mvs v (j + 1))) := by
                have := own_other H9.out.1 ⟨w.heap.size + 1, 4, none⟩ (.slice a9 (j + 1) cap9) (by simp; try omega)
                rw [mvs_snoc] at this
                exact this
              have u9 := U9.out
              have x9 := X9.out
              go_wp2_with fail
              go_roundw
              case rel => exact ⟨j + 1, a9, cap9, by omega, by go_num, u9.other _ _ (by simp; try omega), x9.set 4 _, HO9.out, ⟨HNB9.out.1.other _ _ (by simp; try omega), HNB9.out.2⟩, by simp; exact S9, B9.setCell (by simp; try omega) _⟩
              case measure => simp [intOf]; omega
        · obtain rfl : j = M2 := by omega
          have hnew : NewS wr (w.heap.size + 1 + 1) a2 (mvs v j) := by
            obtain ⟨a', cap', hv, hn, _⟩ := own_news HK.out
            injection hv with hv1
            rw [hv1]; exact hn.less (by omega)
          have HMW := Lib.hid hnew
          clear HK HL hnew HIi1 hlt
          have h3 : ¬ (j : Int) < N ∨ ((j : Int) < N ∧ ¬ (j : Int) < 24) := by omega
          clear hj hM2 hM2N hM24
          rcases h3 with h3 | ⟨h3, h4⟩
          · go_wp2_with fail
            go_meet
            case rel => exact ⟨a, cap, a2, cap2, u6, by rw [hls_len, mls_len]; exact x6, by rw [hls_vals]; exact HNB.out.1, by rw [mls_vals]; exact HMW.out, B6⟩
          · go_wp2_with fail
            go_meet
            case rel => exact ⟨a, cap, a2, cap2, u6, by rw [hls_len, mls_len]; exact x6, by rw [hls_vals]; exact HNB.out.1, by rw [mls_vals]; exact HMW.out, B6⟩
  case rest =>
    clear hkk x5 u5 B5 L3 HQ
    obtain ⟨ah, ch, am, cm, u7, x7, hN, hM, B7⟩ := hcut
    have HNW := Lib.hid hN
    have HMW := Lib.hid hM
    clear hN hM
    obtain ⟨c0, c1, c2, c3, c4, c5⟩ := sixr_cells x7
    have L1 := x7.lt
    go_wp2_with fail
    refine (HE.out ah ch am cm _ HNW.out HMW.out).mono ?_
    rintro e w8 ⟨rfl, hb8⟩
    have x8 := x7.below hb8 x7.lt
    have u8 := u7.below hb8 u7.lt
    have B8 := below_chain B7 hb8 B7.size
    have HN8 := Lib.hid (HNW.out.below hb8 (Nat.le_refl _))
    have HM8 := Lib.hid (HMW.out.below hb8 (Nat.le_refl _))
    have L8 := x8.lt
    clear c0 c1 c2 c3 c4 c5 hb8 B7 HNW HMW u7 x7 L1
    have y0 := u8.frozen 0 (by simp)
    have y1 := u8.frozen 1 (by simp)
    have y2 := u8.frozen 2 (by simp)
    have y3 := u8.frozen 3 (by simp)
    have y4 := u8.frozen 4 (by simp)
    have y5 := u8.frozen 5 (by simp)
    have hm8 := u8.lt
    obtain ⟨c0, c1, c2, c3, c4, c5⟩ := sixr_cells x8
    obtain ⟨z0, z1, z2, z3, z4, z5⟩ := sixr_cells u8
    rcases hres.out with ⟨rfl, h1, hP⟩ | ⟨rfl, h1, hP⟩ | ⟨rfl, hP⟩
    · have HPo := Lib.hid hP
      clear hP
      go_wp2_with fail
      refine bodyPost_ret (v := .tuple #[rcV x ah ch am cm, .int .i64 0]) ?_ rfl ?_
      · have hfin := ((((((u8.set 0 (.int .i64 x.k)).set 1 (.int .u64 x.q)).set 2 (.int .i64 x.at_)).set 3 (.slice ah x.hs.length ch)).set 4 (.slice am x.ms.length cm)).set 5 (.int .u32 x.sum))
        obtain ⟨t0, t1, t2, t3, t4, t5⟩ := sixr_cells (show RowAt _ _ [.int .i64 x.k, .int .u64 x.q, .int .i64 x.at_, .slice ah x.hs.length ch, .slice am x.ms.length cm, .int .u32 x.sum] from hfin)
        simp [results, Try.results16, go_sem, t0, t1, t2, t3, t4, t5]; done
      · rw [HPo.out]
        refine ⟨ah, ch, am, cm, rfl, ?_, ?_, ?_⟩
        · refine NewS.less (base := w.heap.size + 1 + 1) ?_ (by omega)
          exact (((((HN8.out.other _ _ (by simp; try omega)).other _ _ (by simp; try omega)).other _ _ (by simp; try omega)).other _ _ (by simp; try omega)).other _ _ (by simp; try omega)).other _ _ (by simp; try omega)
        · refine NewS.less (base := w.heap.size + 1 + 1) ?_ (by omega)
          exact (((((HM8.out.other _ _ (by simp; try omega)).other _ _ (by simp; try omega)).other _ _ (by simp; try omega)).other _ _ (by simp; try omega)).other _ _ (by simp; try omega)).other _ _ (by simp; try omega)
        · go_grown
    · have HPo := Lib.hid hP
      clear hP
      go_wp2_with fail
      refine bodyPost_ret (v := .tuple #[rv 0 0 0 none 0 0 none 0 0 0, .int .i64 80]) ?_ rfl ?_
      · have hfin := ((((((u8.set 0 (.int .i64 0)).set 1 (.int .u64 0)).set 2 (.int .i64 0)).set 3 (.slice none 0 0)).set 4 (.slice none 0 0)).set 5 (.int .u32 0))
        obtain ⟨t0, t1, t2, t3, t4, t5⟩ := sixr_cells (show RowAt _ _ [.int .i64 0, .int .u64 0, .int .i64 0, .slice none 0 0, .slice none 0 0, .int .u32 0] from hfin)
        simp [results, Try.results16, go_sem, t0, t1, t2, t3, t4, t5]; done
      · rw [HPo.out]
        refine ⟨rfl, ?_⟩
        go_grown
    · have HPo := Lib.hid hP
      clear hP
      go_wp2_with fail
      refine bodyPost_ret (v := .tuple #[rv 0 0 0 none 0 0 none 0 0 0, .int .i64 80]) ?_ rfl ?_
      · have hfin := ((((((u8.set 0 (.int .i64 0)).set 1 (.int .u64 0)).set 2 (.int .i64 0)).set 3 (.slice none 0 0)).set 4 (.slice none 0 0)).set 5 (.int .u32 0))
        obtain ⟨t0, t1, t2, t3, t4, t5⟩ := sixr_cells (show RowAt _ _ [.int .i64 0, .int .u64 0, .int .i64 0, .slice none 0 0, .slice none 0 0, .int .u32 0] from hfin)
        simp [results, Try.results16, go_sem, t0, t1, t2, t3, t4, t5]; done
      · rw [HPo.out]
        refine ⟨rfl, ?_⟩
        go_grown

end Go.Proofs.Ytfgnemddamebaaa
