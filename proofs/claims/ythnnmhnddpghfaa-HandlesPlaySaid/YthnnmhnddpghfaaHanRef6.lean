/- Walks: the document's table of descriptors: Open. -/
import Derived.Test.YthnnmhnddpghfaaHanRef5
import Derived.Deep.RegionHeld3
set_option linter.unusedVariables false
set_option linter.unusedSimpArgs false
set_option maxRecDepth 100000
namespace Go.Proofs.Ythnnmhnddpghfaa
open Go.RowKit Go.Joins

theorem info_fd : (Try.prog.info? 64).map (fun i => (i.zero, i.size, i.bytes)) = some (some (.agg #[.int .i64 0, .int .i64 0, .int .i64 0]), 3, 24) := by kernel_rfl

theorem RO.low {w : World} {R base : Nat} {l : List Rf} (h : RO w R base l) : R < base ∧ R < w.heap.size := by
  obtain ⟨hR, v, h1, _⟩ := h
  exact ⟨hR, h1.lt⟩

theorem ropen_arg (R : Nat) (n : Int) (w : World) (hn : n < 0) :
    Calls Try.prog 14 #[.pointer (some ⟨R, 0, none⟩), .int .i64 n] w fun e w' => e = .returned (.tuple #[.int .i64 0, .int .i64 2]) ∧ w = w' := by
  go_enter Try.func14, Try.ntmps14
  go_wp2_with fail
  go_ret2
  exact ⟨rfl, rfl⟩

set_option maxHeartbeats 2000000 in
theorem ropen_full (R : Nat) (l : List Rf) (n : Int) (w : World) (h : RT w R l) (hl : l.length ≤ 1000) (hn : 0 ≤ n) (hf : ∀ j < 16, 0 ≤ rAt l (j : Nat)) :
    Calls Try.prog 14 #[.pointer (some ⟨R, 0, none⟩), .int .i64 n] w fun e w' => e = .returned (.tuple #[.int .i64 0, .int .i64 221]) ∧ w = w' := by
  have HA := Lib.hid (fun fd => rat R l fd w h hl)
  have HF := Lib.hid hf
  have h0 : ¬ n < 0 := by omega
  clear h hf
  go_enter Try.func14, Try.ntmps14
  go_wp2_with fail
  go_loopw [6] (fun jj wr => ∃ k : Nat, k ≤ 16 ∧ jj = .int .i64 k ∧ wr = w) (fun jj _ => 16 - (intOf jj).toNat)
  case atStart => exact ⟨0, by omega, rfl, rfl⟩
  case round =>
    obtain ⟨k, hk, rfl, rfl⟩ := hrel
    by_cases hlt : k < 16
    · have h1 : (k : Int) < 16 := by omega
      have hk0 := HF.out k hlt
      have h2 : ¬ rAt l k < 0 := by omega
      go_wp2_with fail
      refine (HA.out _).mono ?_
      rintro e w1 ⟨rfl, rfl⟩
      go_wp2_with fail
      go_roundw
      case rel => exact ⟨k + 1, by omega, by go_num, trivial⟩
      case measure => simp [intOf]; omega
    · obtain rfl : k = 16 := by omega
      go_wp2_with fail
      go_ret2
      exact ⟨rfl, rfl⟩

set_option maxHeartbeats 4000000 in
theorem ropen_some (R base : Nat) (l : List Rf) (n : Int) (f : Nat) (w : World) (h : RO w R base l) (hl : l.length ≤ 1000) (hb : base ≤ w.heap.size) (hn : 0 ≤ n) (hf16 : f < 16) (hf0 : rAt l f = -1) (hf : ∀ j < f, 0 ≤ rAt l (j : Nat)) :
    Calls Try.prog 14 #[.pointer (some ⟨R, 0, none⟩), .int .i64 n] w fun e w' => e = .returned (.tuple #[.int .i64 f, .int .i64 0]) ∧ RO w' R base (l ++ [⟨f, n, 0⟩]) ∧ KeptR R base w w' ∧ FarR R w w' := by
  have HA := Lib.hid (fun fd => rat R l fd w h.rt hl)
  have HF := Lib.hid hf
  have HF0 := Lib.hid hf0
  have h0 : ¬ n < 0 := by omega
  obtain ⟨i0, hi, hz0, hz1, hz2⟩ := info_parts info_fd
  have HI := Lib.hid (And.intro hi (And.intro hz0 (And.intro hz1 hz2)))
  obtain ⟨hR, v, h1, h2⟩ := h
  obtain ⟨a, cap, rfl⟩ := own_form h2
  have HO := Lib.hid h2
  have HL := Lib.hid (fun j hj => World.ownsRow.lt HO.out j hj)
  have H1 := Lib.hid h1
  clear hf hf0 hi hz0 hz1 hz2 h1 h2
  go_enter Try.func14, Try.ntmps14
  go_wp2_with fail
  go_loopw [6] (fun jj wr => ∃ k : Nat, k ≤ f ∧ jj = .int .i64 k ∧ wr = w) (fun jj _ => 16 - (intOf jj).toNat)
  case atStart => exact ⟨0, by omega, rfl, rfl⟩
  case round =>
    obtain ⟨k, hk, rfl, rfl⟩ := hrel
    have h1 : (k : Int) < 16 := by omega
    by_cases hlt : k < f
    · have hk0 := HF.out k hlt
      have h2 : ¬ rAt l k < 0 := by omega
      go_wp2_with fail
      refine (HA.out _).mono ?_
      rintro e w1 ⟨rfl, rfl⟩
      go_wp2_with fail
      go_roundw
      case rel => exact ⟨k + 1, by omega, by go_num, trivial⟩
      case measure => simp [intOf]; omega
    · obtain rfl : k = f := by omega
      have hk0 := HF0.out
      have h2 : rAt l k < 0 := by omega
      have d0 := H1.out.cell 0 (by simp)
      have hRlt := H1.out.lt
      clear hk0
      go_wp2_with fail
      refine (HA.out _).mono ?_
      rintro e w1 ⟨rfl, rfl⟩
      have HR := Lib.hid (row_news4 (rowAt_alloc wr #[.int .i64 (k : Int), .int .i64 n, .int .i64 0] 64))
      go_wp2_with (at_builtin; refine wpList_append_own _ rfl _ _ 35 rfl base 64 i0 (.agg #[.int .i64 0, .int .i64 0, .int .i64 0]) 3 24 Try.underlying35 HI.out.1 HI.out.2.1 HI.out.2.2.1 HI.out.2.2.2 rfl (by decide) _ l.length _ rfl (HO.out.alloc _) ⟨wr.heap.size, 0, none⟩ 1 1 [.int .i64 (k : Int), .int .i64 n, .int .i64 0] rfl rfl HR.out ?c2 ?c3 ?c4 ?c5 ?_)
      case c2 => intro u hu; simp at hu; rcases hu with rfl | rfl | rfl <;> rfl
      case c3 => unfold maxLen; omega
      case c4 => omega
      case c5 => simp; omega
      intro v' w9 hown9 hg9 _
      obtain ⟨a9, cap9, rfl⟩ := own_form hown9
      have h9 := (H1.out.alloc (.cells #[.int .i64 (k : Int), .int .i64 n, .int .i64 0] 64)).grown hg9 (fun e => by have := (HL.out _ e).1; omega)
      have d9 := h9.cell 0 (by simp)
      have f9 := h9.frozen 0 (by simp)
      have hR9 := h9.lt
      have K1 : KeptR R base wr w9 := (KeptR.of_below ((Below.refl wr.heap.size wr).alloc (Nat.le_refl _) _) hb).trans (KeptR.of_grown hg9 (by simp; omega) (fun j hj => .inr (HL.out j hj).1))
      have HO9 : Hid (RO (w9.setCell ⟨R, 0, none⟩ (.slice a9 (l.length + 1) cap9)) R base (l ++ [⟨k, n, 0⟩]) ∧ KeptR R base wr (w9.setCell ⟨R, 0, none⟩ (.slice a9 (l.length + 1) cap9)) ∧ FarR R wr (w9.setCell ⟨R, 0, none⟩ (.slice a9 (l.length + 1) cap9))) := by
        refine ⟨⟨hR, .slice a9 (l.length + 1) cap9, h9.set 0 _, ?_⟩, K1.trans (KeptR.set _ _ _ _ _), fun j hj hne ho => ?_⟩
        rotate_left
        · have h5 := ho _ d0
          rw [Below.heap_setCell _ _ _ _ (by exact hne), hg9.block j (by simp; omega) (fun e => h5 e.symm)]
          exact Below.heap_alloc _ _ _ hj
        have := own_other hown9 ⟨R, 0, none⟩ (.slice a9 (l.length + 1) cap9) (by exact hR)
        rw [List.length_append, List.flatMap_append]
        exact this
      clear hown9 hg9 HR d0 K1
      go_wp2_with fail
      go_ret2
      exact ⟨rfl, HO9.out.1, HO9.out.2.1, HO9.out.2.2⟩

end Go.Proofs.Ythnnmhnddpghfaa
