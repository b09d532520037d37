/- Walks: the block of a list of entries. -/
import Derived.Test.YtlhkfpenfbakkaaDirWalks2
set_option linter.unusedVariables false
set_option linter.unusedSimpArgs false
set_option maxRecDepth 100000
namespace Go.Proofs.Ytlhkfpenfbakkaa
open Go.RowKit Go.Joins

theorem any130 (l : List De) : l.any (chkIs 130) = !(l.all De.nameOk) := by
  induction l with
  | nil => rfl
  | cons d l ih =>
    rw [List.any_cons, List.all_cons, ih, Bool.not_and]
    congr 1
    unfold chkIs chkP
    cases d.nameOk <;> cases d.inoOk <;> rfl
theorem any2 (l : List De) (h : l.all De.nameOk = true) : l.any (chkIs 2) = !(l.all De.inoOk) := by
  induction l with
  | nil => rfl
  | cons d l ih =>
    rw [List.all_cons, Bool.and_eq_true] at h
    rw [List.any_cons, List.all_cons, ih h.2, Bool.not_and]
    congr 1
    unfold chkIs chkP
    rw [h.1]
    cases d.inoOk <;> rfl
theorem many_le {l : List De} (h : ∀ d ∈ l, d.nameOk = true) : many l ≤ 37 * l.length := by
  induction l with
  | nil => exact Nat.le_refl _
  | cons d l ih =>
    have h1 := ih fun x hx => h x (List.mem_cons_of_mem _ hx)
    obtain ⟨_, _, h2⟩ := ofNat_size (h d (by simp))
    rw [many_cons, List.length_cons, De.sz]
    omega
theorem take_snoc {α : Type} {l : List α} {k : Nat} {x : α} (h : l[k]? = some x) : l.take (k + 1) = l.take k ++ [x] := by
  obtain ⟨hk, e⟩ := List.getElem?_eq_some_iff.1 h
  rw [List.take_succ_eq_append_getElem hk, e]
theorem many_one (d : De) : many [d] = d.sz := by simp [many]
theorem entsB_one (d : De) : entsB [d] = entB d := by simp [entsB]
theorem dup_yes {l : List De} {k : Nat} {x : De} (hx : l[k]? = some x) (h : (l.take k).any (deP x.nm) = true) : dupP l = true := by
  obtain ⟨hk, e⟩ := List.getElem?_eq_some_iff.1 hx
  rw [List.any_eq_true] at h
  obtain ⟨y, hy, hp⟩ := h
  rw [deP, decide_eq_true_iff] at hp
  have hn : ¬ (l.map De.bs).Nodup := by
    intro hn
    have h2 : (l.take (k + 1)).map De.bs |>.Nodup := hn.sublist ((List.take_sublist _ _).map _)
    rw [take_snoc hx, List.map_append, List.nodup_append] at h2
    exact h2.2.2 y.bs (List.mem_map_of_mem hy) x.bs (by simp) hp
  simp [dupP, hn]
theorem dup_step {l : List De} {k : Nat} {x : De} (hx : l[k]? = some x) (h : (l.take k).any (deP x.nm) = false) (hn : ((l.take k).map De.bs).Nodup) : ((l.take (k + 1)).map De.bs).Nodup := by
  rw [take_snoc hx, List.map_append, List.nodup_append]
  refine ⟨hn, by simp, ?_⟩
  intro a ha b hb
  rw [List.mem_map] at ha
  obtain ⟨y, hy, rfl⟩ := ha
  simp at hb
  subst hb
  rw [List.any_eq_false] at h
  have := h y hy
  simpa [deP] using this

theorem errs0 : ∀ w, (Instr.index 48 (.agg #[.int .i64 130, .int .i64 2]) (.int .i64 0)).run Try.prog w = .ok (.int .i64 130) w := fun w => by kernel_rfl
theorem errs1 : ∀ w, (Instr.index 48 (.agg #[.int .i64 130, .int .i64 2]) (.int .i64 1)).run Try.prog w = .ok (.int .i64 2) w := fun w => by kernel_rfl

def PackP (l : List De) (w : World) (e : Ending) (w' : World) : Prop := e = .returned (.tuple #[.string (packB l), .int .i64 (packE l)]) ∧ Below w.heap.size w w'
theorem pack_err {l : List De} {w w' : World} {z : Int} (hz : z ≠ 0) (h : packE l = z) (hb : Below w.heap.size w w') : PackP l w (.returned (.tuple #[.string ⟨#[]⟩, .int .i64 z])) w' := by
  refine ⟨?_, hb⟩
  rw [h, packB, if_neg (by rw [h]; exact hz)]

set_option maxHeartbeats 8000000 in
theorem pack_any (a : Option Addr) (cap : Nat) (l : List De) (w : World) (hV : ValD w a l) (hl : l.length ≤ 100000) (hcap : l.length ≤ cap) : Calls Try.prog 10 #[.slice a l.length cap] w (PackP l w) := by
  have HV := Lib.hid hV
  have hl' : (l.length : Int) ≤ 100000 := by omega
  have B1 : Below w.heap.size w (w.alloc (.cells #[.int .i64 130] 26)) := (Below.refl _ _).alloc (Nat.le_refl _) _
  have HC1 := Lib.hid (contains1 a cap l w.heap.size 130 _ (hV.below B1 (Nat.le_refl _)) (by omega) (World.cell?_alloc_new _ _ _ 0))
  clear hV
  have ie0 := errs0
  have ie1 := errs1
  cases h1 : l.all De.nameOk with
  | false =>
    rw [any130, h1] at HC1
    have HE := Lib.hid (show packE l = 130 from by rw [packE, h1]; rfl)
    clear h1
    go_enter Try.func10, Try.ntmps10
    go_wp2_with fail
    refine wp_loop_rounds 1 ?_
    rw [rounds_succ]
    go_wp2_with fail
    refine HC1.out.mono ?_
    rintro e w1 ⟨rfl, hb1⟩
    have B2 := below_chain B1 hb1 B1.size
    have c1 : w1.cell? ⟨w.heap.size, 0, none⟩ = some (.int .i64 130) := by rw [hb1.cell (p := ⟨w.heap.size, 0, none⟩) (by simp)]; exact World.cell?_alloc_new _ _ _ 0
    go_wp2_with fail
    go_quiet (fail)
    have B3 := below_drewN B2 nq
    go_wp2_with fail
    go_ret2
    exact pack_err (by decide) HE.out B3
  | true =>
    rw [any130, h1] at HC1
    have HN := Lib.hid h1
    clear h1
    go_enter Try.func10, Try.ntmps10
    go_wp2_with fail
    refine wp_loop_rounds 3 ?_
    rw [rounds_succ]
    go_wp2_with fail
    refine HC1.out.mono ?_
    rintro e w1 ⟨rfl, hb1⟩
    have B2 := below_chain B1 hb1 B1.size
    have B3 := B2.alloc B2.size (.cells #[.int .i64 2] 26)
    have HC2 := Lib.hid (contains1 a cap l w1.heap.size 2 _ (HV.out.below B3 (Nat.le_refl _)) (by omega) (World.cell?_alloc_new _ _ _ 0))
    rw [any2 l HN.out] at HC2
    clear HC1 hb1 B1
    go_wp2_with fail
    rw [rounds_succ]
    go_wp2_with fail
    cases h2 : l.all De.inoOk with
    | false =>
      rw [h2] at HC2
      have HE := Lib.hid (show packE l = 2 from by rw [packE, HN.out, h2]; rfl)
      clear h2
      refine HC2.out.mono ?_
      rintro e w2 ⟨rfl, hb2⟩
      have B4 := below_chain B3 hb2 B3.size
      have c1 : w2.cell? ⟨w1.heap.size, 0, none⟩ = some (.int .i64 2) := by rw [hb2.cell (p := ⟨w1.heap.size, 0, none⟩) (by simp)]; exact World.cell?_alloc_new _ _ _ 0
      go_wp2_with fail
      go_quiet (fail)
      have B5 := below_drewN B4 nq
      go_wp2_with fail
      go_ret2
      exact pack_err (by decide) HE.out B5
    | true =>
      rw [h2] at HC2
      have HI := Lib.hid h2
      clear h2
      refine HC2.out.mono ?_
      rintro e w2 ⟨rfl, hb2⟩
      have B4 := below_chain B3 hb2 B3.size
      clear HC2 hb2 B3 B2
      go_wp2_with fail
      rw [rounds_succ]
      go_wp2_with fail
      have HM := Lib.hid (many_le (List.all_eq_true.1 HN.out))
      go_loopw [6, 23] (fun mm jj wr => ∃ k : Nat, k ≤ l.length ∧ jj = .int .i64 k ∧ mm = .int .i64 (many (l.take k) : Nat) ∧ Hid (((l.take k).map De.bs).Nodup) ∧ Below w.heap.size w wr) (fun _ jj _ => l.length - (intOf jj).toNat)
      case atStart => exact ⟨0, by omega, rfl, rfl, List.nodup_nil, B4⟩
      case round =>
        obtain ⟨k, hk, rfl, rfl, HD, B⟩ := hrel
        clear B4
        by_cases hlt : k < l.length
        · obtain ⟨x, hx⟩ : ∃ x, l[k]? = some x := ⟨_, List.getElem?_eq_getElem hlt⟩
          have hVr := HV.out.below B (Nat.le_refl _)
          obtain ⟨P, o, rfl, hP, d0, d1⟩ := de_cells hVr hx
          have i1 : (k : Int) < (l.length : Int) := by omega
          have i2 : (0 : Int) ≤ (k : Int) := by omega
          have i3 : (k : Int) ≤ (cap : Int) := by omega
          have hbA : Below wr.heap.size wr (wr.alloc (.cells #[.string x.nm, .int .i64 x.ino] 25)) := (Below.refl _ _).alloc (Nat.le_refl _) _
          have BA := below_chain B hbA B.size
          have hlk : (l.take k).length = k := by rw [List.length_take]; omega
          have HC3 := contains2 (some ⟨P, o, none⟩) cap (l.take k) wr.heap.size x.nm _ ((hVr.take k).below hbA (Nat.le_refl _)) (by omega) (World.cell?_alloc_new _ _ _ 0)
          rw [hlk] at HC3
          have HC := Lib.hid HC3
          have hsz := ofNat_size (List.all_eq_true.1 HN.out x (List.mem_of_getElem? hx))
          have hmk : many (l.take k) ≤ 3700000 := by
            have := many_le (l := l.take k) (fun d hd => List.all_eq_true.1 HN.out d (List.mem_of_mem_take hd))
            omega
          have HSz := Lib.hid (fun W => size_any x W (by omega))
          have hsx : x.sz ≤ 37 := by rw [De.sz]; omega
          have HMS := Lib.hid (show many (l.take (k + 1)) = many (l.take k) + x.sz from by rw [take_snoc hx, many_append, many_one])
          have HX := Lib.hid hx
          clear hVr HC3 hx hsz hbA hlk
          cases hany : (l.take k).any (deP x.nm) with
          | true =>
            rw [hany] at HC
            have HE := Lib.hid (show packE l = 211 from by rw [packE, HN.out, HI.out, dup_yes HX.out hany]; rfl)
            clear hany
            go_wp2_with fail
            refine HC.out.mono ?_
            rintro e w3 ⟨rfl, hb3⟩
            have B5 := below_chain BA hb3 BA.size
            go_wp2_with fail
            go_ret2
            exact pack_err (by decide) HE.out B5
          | false =>
            rw [hany] at HC
            have HD2 := Lib.hid (dup_step HX.out hany HD.out)
            clear hany
            go_wp2_with fail
            refine HC.out.mono ?_
            rintro e w3 ⟨rfl, hb3⟩
            have B5 := below_chain BA hb3 BA.size
            have e0 : w3.cell? ⟨wr.heap.size, 0, none⟩ = some (.string x.nm) := by rw [hb3.cell (p := ⟨wr.heap.size, 0, none⟩) (by simp)]; exact World.cell?_alloc_new _ _ _ 0
            have e1 : w3.cell? ⟨wr.heap.size, 1, none⟩ = some (.int .i64 x.ino) := by rw [hb3.cell (p := ⟨wr.heap.size, 1, none⟩) (by simp)]; exact World.cell?_alloc_new _ _ _ 1
            have HS3 := Lib.hid (HSz.out w3)
            change Hid (Calls _ _ #[.agg #[.string x.nm, .int .i64 x.ino]] _ _) at HS3
            clear d0 d1 hb3 BA HC
            go_wp2_with fail
            refine HS3.out.mono ?_
            rintro e w4 ⟨rfl, hb4⟩
            have B6 := below_chain B5 hb4 B5.size
            clear e0 e1 hb4 B5 HS3
            go_wp2_with fail
            go_roundw
            case rel => exact ⟨k + 1, by omega, by go_num, by rw [HMS.out]; simp, HD2.out, B6⟩
            case measure => simp [intOf]; omega
        · obtain rfl : k = l.length := by omega
          rw [List.take_length]
          have hD := HD.out
          rw [List.take_length] at hD
          have hdup : dupP l = false := by simp [dupP, hD]
          have hnl : ¬ ((l.length : Int) < (l.length : Int)) := by omega
          by_cases hm : 128 < many l
          · have hm' : (128 : Int) < (many l : Int) := by omega
            have HE := Lib.hid (show packE l = 120 from by rw [packE, HN.out, HI.out, hdup, if_pos hm]; rfl)
            clear hD hdup hm
            go_wp2_with fail
            go_ret2
            exact pack_err (by decide) HE.out B
          · have hm' : ¬ (128 : Int) < (many l : Int) := by omega
            have HE := Lib.hid (show packE l = 0 from by rw [packE, HN.out, HI.out, hdup, if_neg hm]; rfl)
            have HM2 := Lib.hid hm
            clear hD hdup hm HM
            go_wp2_with fail
            have B7 := B
            clear B
            go_loopw [9, 42] (fun ss jj wr => ∃ k : Nat, k ≤ l.length ∧ jj = .int .i64 k ∧ ss = .string (tx (entsB (l.take k))) ∧ Below w.heap.size w wr) (fun _ jj _ => l.length - (intOf jj).toNat)
            case atStart => exact ⟨0, by omega, rfl, rfl, B7⟩
            case round =>
              clear B7
              obtain ⟨k, hk, rfl, rfl, B⟩ := hrel
              by_cases hlt : k < l.length
              · obtain ⟨x, hx⟩ : ∃ x, l[k]? = some x := ⟨_, List.getElem?_eq_getElem hlt⟩
                have hVr := HV.out.below B (Nat.le_refl _)
                obtain ⟨P, o, rfl, hP, d0, d1⟩ := de_cells hVr hx
                have i1 : (k : Int) < (l.length : Int) := by omega
                have i2 : (0 : Int) ≤ (k : Int) := by omega
                have hbA : Below wr.heap.size wr (wr.alloc (.cells #[.string x.nm, .int .i64 x.ino] 25)) := (Below.refl _ _).alloc (Nat.le_refl _) _
                have BA := below_chain B hbA B.size
                have hxm := List.mem_of_getElem? hx
                have HB := Lib.hid (bytes_any x (wr.alloc (.cells #[.string x.nm, .int .i64 x.ino] 25)) (List.all_eq_true.1 HN.out x hxm) (List.all_eq_true.1 HI.out x hxm))
                change Hid (Calls _ _ #[.agg #[.string x.nm, .int .i64 x.ino]] _ _) at HB
                have HT := Lib.hid (show tx (entsB (l.take k)) ++ tx (entB x) = tx (entsB (l.take (k + 1))) from by rw [tx_app, take_snoc hx, entsB_append, entsB_one])
                have hsz : ¬ maxLen < (tx (entsB (l.take k))).size + (tx (entB x)).size := by
                  rw [← ByteArray.size_append, HT.out, tx_size, entsB_len]
                  have := many_sub (List.take_sublist (k + 1) l)
                  have := HM2.out
                  unfold maxLen
                  omega
                clear hVr hx hbA hxm
                generalize tx (entsB (l.take k)) = T1 at *
                generalize tx (entB x) = T2 at *
                go_wp2_with fail
                refine HB.out.mono ?_
                rintro e w3 ⟨rfl, hb3⟩
                have B5 := below_chain BA hb3 BA.size
                clear HB hb3 BA d0 d1
                go_wp2_with fail
                go_roundw
                case rel => exact ⟨k + 1, by omega, by go_num, by rw [← HT.out], B5⟩
                case measure => simp [intOf]; omega
              · obtain rfl : k = l.length := by omega
                rw [List.take_length]
                have hbl := block_any (tx (entsB l)) wr (by rw [tx_size, entsB_len]; have := HM2.out; omega)
                rw [tx_size, entsB_len, tx_app] at hbl
                have HBL := Lib.hid hbl
                have HP := Lib.hid (show packB l = tx (entsB l ++ List.replicate (128 - many l) 0) from by rw [packB, if_pos HE.out])
                clear hbl
                go_wp2_with fail
                refine HBL.out.mono ?_
                rintro e w3 ⟨rfl, hb3⟩
                have B5 := below_chain B hb3 B.size
                go_wp2_with fail
                go_ret2
                exact ⟨by rw [HP.out, HE.out]; rfl, B5⟩

end Go.Proofs.Ytlhkfpenfbakkaa
