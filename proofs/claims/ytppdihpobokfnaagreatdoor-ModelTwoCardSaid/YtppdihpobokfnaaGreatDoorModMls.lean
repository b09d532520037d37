/- A law's run: several models, and rows of cells that are no model's. -/
import Derived.Test.YtppdihpobokfnaaGreatDoorModW42
set_option linter.unusedVariables false
set_option linter.unusedSimpArgs false
set_option maxRecDepth 100000
namespace Go.Proofs.YtppdihpobokfnaaGreatDoor
open Go.RowKit Go.Joins

/-- a model: where it lies, a count, what it is -/
structure Ml where
  R : Rp
  N : Nat
  m : Md
/-- several models lie side by side, and rows that are none's -/
structure Mls (w W : World) (ms : List Ml) (rows : List (Nat × List Value)) : Prop where
  below : Below w.heap.size w W
  inv : ∀ p ∈ ms, Inv p.N Nul p.m
  md : ∀ p ∈ ms, MdAt W p.R p.m
  high : ∀ p ∈ ms, ∀ b, b < w.heap.size → p.R.L b = none
  apart : ms.Pairwise fun p q => ∀ b, p.R.L b = none ∨ q.R.L b = none
  rows : ∀ r ∈ rows, RowAt W r.1 r.2 ∧ ∀ p ∈ ms, p.R.L r.1 = none

section
variable {w W W' : World} {ms : List Ml} {rows : List (Nat × List Value)} {p : Ml}
theorem Mls.under (h : Mls w W ms rows) (hb : Below W.heap.size W W') : Mls w W' ms rows :=
  ⟨h.below.trans (hb.mono h.below.size), h.inv, fun p hp => (h.md p hp).below hb (Nat.le_refl _), h.high, h.apart, fun r hr => ⟨(h.rows r hr).1.below hb (h.rows r hr).1.lt, (h.rows r hr).2⟩⟩
theorem Mls.drew (h : Mls w W ms rows) : Mls w W.drew ms rows := h.under ((Below.refl _ _).drew)
theorem Mls.row (h : Mls w W ms rows) {b : Nat} {xs : List Value} (hm : (b, xs) ∈ rows) : RowAt W b xs := (h.rows _ hm).1
theorem Mls.put (h : Mls w W ms rows) (hb : Below W.heap.size W W') {g : Nat} {xs : List Value} (hr : RowAt W' g xs) (hg : W.heap.size ≤ g) : Mls w W' ms ((g, xs) :: rows) := by
  have hu := h.under hb
  refine ⟨hu.below, hu.inv, hu.md, hu.high, hu.apart, fun r hr' => ?_⟩
  rcases List.mem_cons.1 hr' with rfl | hr'
  · exact ⟨hr, fun p hp => (h.md p hp).fresh hg⟩
  · exact hu.rows r hr'
theorem Mls.alloc (h : Mls w W ms rows) (cs : Array Value) (t : TypeId) : Mls w (W.alloc (.cells cs t)) ms ((W.heap.size, cs.toList) :: rows) :=
  h.put ((Below.refl W.heap.size W).alloc (Nat.le_refl _) (.cells cs t)) (rowAt_alloc W cs t) (Nat.le_refl _)
theorem Mls.drop (h : Mls w W ms rows) {rows' : List (Nat × List Value)} (hs : ∀ p ∈ rows', p ∈ rows) : Mls w W ms rows' :=
  ⟨h.below, h.inv, h.md, h.high, h.apart, fun r hr => h.rows r (hs r hr)⟩
/-- more rows, of a list that lies in none's blocks -/
theorem Mls.rowsMore (h : Mls w W ms rows) {rs : List (Nat × List Value)} (hr : ∀ r ∈ rs, RowAt W r.1 r.2 ∧ ∀ p ∈ ms, p.R.L r.1 = none) : Mls w W ms (rs ++ rows) :=
  ⟨h.below, h.inv, h.md, h.high, h.apart, fun r q => by
    rcases List.mem_append.1 q with q | q
    · exact hr r q
    · exact h.rows r q⟩
theorem set_apart {α : Type} {P : α → α → Prop} (hs : ∀ a b, P a b → P b a) : ∀ {l : List α} {i : Nat} {x : α}, l.Pairwise P → (∀ j y, l[j]? = some y → j ≠ i → P x y) → (l.set i x).Pairwise P
  | [], _, _, _, _ => by simp
  | a :: l, 0, x, h, hx => by
    rw [List.set_cons_zero, List.pairwise_cons]
    rw [List.pairwise_cons] at h
    refine ⟨fun y hy => ?_, h.2⟩
    obtain ⟨j, hj, e⟩ := List.getElem_of_mem hy
    exact hx (j + 1) y (by rw [List.getElem?_cons_succ, List.getElem?_eq_getElem hj, e]) (by omega)
  | a :: l, i + 1, x, h, hx => by
    rw [List.set_cons_succ, List.pairwise_cons]
    rw [List.pairwise_cons] at h
    refine ⟨fun y hy => ?_, set_apart hs h.2 (fun j y hj hne => hx (j + 1) y (by rw [List.getElem?_cons_succ]; exact hj) (by omega))⟩
    rcases List.mem_or_eq_of_mem_set hy with hy | rfl
    · exact h.1 y hy
    · exact hs _ _ (hx 0 a rfl (by omega))
/-- one model is turned; the others stay -/
theorem Mls.turn (h : Mls w W ms rows) {i : Nat} (hp : ms[i]? = some p) {q : Ml} (hI : Inv q.N Nul q.m) (hM : Mid W p.R.L W' q.R q.m) : Mls w W' (ms.set i q) rows := by
  have hmem : p ∈ ms := List.mem_of_getElem? hp
  have hoth : ∀ j y, ms[j]? = some y → j ≠ i → ∀ b, p.R.L b = none ∨ y.R.L b = none := fun j y hj hne b => by
    have ha := List.pairwise_iff_getElem.1 h.apart
    obtain ⟨hi', ei⟩ := List.getElem?_eq_some_iff.1 hp
    obtain ⟨hj', ej⟩ := List.getElem?_eq_some_iff.1 hj
    rcases Nat.lt_or_gt_of_ne hne with c | c
    · have := ha j i hj' hi' c b
      rw [ei, ej] at this
      exact this.symm
    · have := ha i j hi' hj' c b
      rw [ei, ej] at this
      exact this
  have hB : Below w.heap.size w W' := h.below.trans (hM.turn.under (fun b hb => h.high p hmem b hb) h.below.size)
  have hq : ∀ b, b < W.heap.size → q.R.L b = p.R.L b := hM.ext
  have hcase : ∀ y ∈ ms.set i q, y = q ∨ ∃ j, ms[j]? = some y ∧ j ≠ i := fun y hy => by
    obtain ⟨j, hj, e⟩ := List.getElem_of_mem hy
    rw [List.getElem_set] at e
    by_cases c : i = j
    · rw [if_pos c] at e; exact .inl e.symm
    · rw [if_neg c] at e
      exact .inr ⟨j, by rw [List.getElem?_eq_getElem (by simpa using hj), e], fun q => c q.symm⟩
  have hkeep : ∀ j y, ms[j]? = some y → j ≠ i → MdAt W' y.R y.m := fun j y hj hne => by
    have hy := h.md y (List.mem_of_getElem? hj)
    refine hy.same hM.turn.size (fun b hb => hM.turn.block b (hy.old b hb) ?_)
    rcases hoth j y hj hne b with c | c
    · exact c
    · exact absurd c hb
  refine ⟨hB, fun y hy => ?_, fun y hy => ?_, fun y hy b hb => ?_, ?_, fun r hr => ?_⟩
  · rcases hcase y hy with rfl | ⟨j, hj, hne⟩
    · exact hI
    · exact h.inv y (List.mem_of_getElem? hj)
  · rcases hcase y hy with rfl | ⟨j, hj, hne⟩
    · exact hM.md
    · exact hkeep j y hj hne
  · rcases hcase y hy with rfl | ⟨j, hj, hne⟩
    · rw [hq b (Nat.lt_of_lt_of_le hb h.below.size)]
      exact h.high p hmem b hb
    · exact h.high y (List.mem_of_getElem? hj) b hb
  · refine set_apart (fun a b hab k => (hab k).symm) h.apart (fun j y hj hne b => ?_)
    by_cases c : b < W.heap.size
    · rw [hq b c]; exact hoth j y hj hne b
    · right
      by_cases e : y.R.L b = none
      · exact e
      · exact absurd ((h.md y (List.mem_of_getElem? hj)).old b e) c
  · obtain ⟨h1, h2⟩ := h.rows r hr
    refine ⟨h1.same (hM.turn.block r.1 h1.lt (h2 p hmem)), fun y hy => ?_⟩
    rcases hcase y hy with rfl | ⟨j, hj, hne⟩
    · rw [hq r.1 h1.lt]; exact h2 p hmem
    · exact h2 y (List.mem_of_getElem? hj)
/-- a model comes -/
theorem Mls.come (h : Mls w W ms rows) (hb : Below W.heap.size W W') {q : Ml} (hI : Inv q.N Nul q.m) (hM : MdAt W' q.R q.m) (hL : ∀ b, b < W.heap.size → q.R.L b = none) : Mls w W' (ms ++ [q]) rows := by
  have hu := h.under hb
  have hcase : ∀ y ∈ ms ++ [q], y ∈ ms ∨ y = q := fun y hy => by simpa using hy
  refine ⟨hu.below, fun y hy => ?_, fun y hy => ?_, fun y hy b hb' => ?_, ?_, fun r hr => ⟨(hu.rows r hr).1, fun y hy => ?_⟩⟩
  · rcases hcase y hy with hy | rfl
    · exact h.inv y hy
    · exact hI
  · rcases hcase y hy with hy | rfl
    · exact hu.md y hy
    · exact hM
  · rcases hcase y hy with hy | rfl
    · exact h.high y hy b hb'
    · exact hL b (Nat.lt_of_lt_of_le hb' h.below.size)
  · rw [List.pairwise_append]
    refine ⟨h.apart, List.pairwise_singleton .., fun y hy z hz b => ?_⟩
    rw [List.mem_singleton.1 hz]
    by_cases c : b < W.heap.size
    · exact .inr (hL b c)
    · left
      by_cases e : y.R.L b = none
      · exact e
      · exact absurd ((h.md y hy).old b e) c
  · rcases hcase y hy with hy | rfl
    · exact (h.rows r hr).2 y hy
    · exact hL _ (h.rows r hr).1.lt
theorem Mls.none (hB : Below w.heap.size w W) (hr : ∀ p ∈ rows, RowAt W p.1 p.2) : Mls w W [] rows :=
  ⟨hB, fun _ h => (by cases h), fun _ h => (by cases h), fun _ h => (by cases h), List.Pairwise.nil, fun r h => ⟨hr r h, fun _ q => by cases q⟩⟩
/-- a model that a run left -/
theorem Mls.of_lv (h : Mls w W ms rows) {MB N : Nat} {m : Md} {rs : List (Nat × List Value)} (hl : Lv W MB N W' m rs) : ∃ q : Ml, q.R.mb = MB ∧ q.N = N ∧ q.m = m ∧ Mls w W' (ms ++ [q]) rows := by
  obtain ⟨R, h1, h2, h3, h4⟩ := hl.ex
  exact ⟨⟨R, N, m⟩, h1, rfl, rfl, h.come hl.below hl.inv h2 h3⟩
theorem Mls.valG {α : Type} {f : α → List Value} {l : List α} {a : Option Addr} {sz : Nat} (h : Mls w W ms rows) (hf : ∀ x, (f x).length = sz) (hg : GIn rows a f l) : ValG W a sz (l.map f) := by
  rcases hg with rfl | ⟨g, rfl, hm⟩
  · exact .inl rfl
  · have hr := h.row hm
    refine .inr ⟨g, 0, rfl, hr.lt, fun i xs hi j v hj => ?_⟩
    rw [List.getElem?_map] at hi
    obtain ⟨x, hx, rfl⟩ := Option.map_eq_some_iff.1 hi
    have h9 := flat_at hf l i x hx j v hj
    rw [Nat.zero_add, hr.cell _ (List.getElem?_eq_some_iff.1 h9).1, h9]
theorem Mls.val (h : Mls w W ms rows) {a : Option Addr} {n c : Nat} {xs : List Value} (hl : LsIn rows (.slice a n c) xs) : ValS W a xs := by
  rcases hl with ⟨h1, _⟩ | ⟨g, cap, e, hm⟩
  · exact .inl h1
  · injection e with e _ _
    have hr := h.row hm
    right
    refine ⟨g, 0, e, hr.lt, fun i v hi => ?_⟩
    rw [Nat.zero_add]
    obtain ⟨hi', _⟩ := List.getElem?_eq_some_iff.1 hi
    rw [hr.cell i hi', hi]

/-- a call -/
theorem mls_do (h : Mls w W ms rows) {i : Nat} (hp : ms[i]? = some p) (hN : p.N ≤ 900000) (c : Cl) (hc : (Lit.int .i64 c.k).wf = true) :
    Calls Tryz.prog 15 #[.pointer (some ⟨p.R.mb, 0, none⟩), .agg #[.int .i64 c.k, .string c.p, .string c.o, .int .i64 c.fd, .int .i64 c.n, .string c.d, .bool c.on]] W fun e W' => ∃ (na la : Option Addr) (nc lc : Nat) (R' : Rp) (rows' : List (Nat × List Value)),
      e = .returned (.agg (ansC (doP p.m c).1.e (doP p.m c).1.n (tx (doP p.m c).1.d) (.slice na (doP p.m c).1.names.length nc) (doP p.m c).1.st.kind (doP p.m c).1.st.size (doP p.m c).1.st.links (doP p.m c).1.st.pin (.slice la (doP p.m c).1.lens.length lc)).toArray) ∧ R'.mb = p.R.mb ∧
      Mls w W' (ms.set i ⟨R', p.N + 1, (doP p.m c).2⟩) rows' ∧ RSub rows rows' ∧ LsIn rows' (.slice na (doP p.m c).1.names.length nc) (strs ((doP p.m c).1.names.map tx)) ∧ LsIn rows' (.slice la (doP p.m c).1.lens.length lc) ((doP p.m c).1.lens.map (Value.int .i64)) := by
  have hmem : p ∈ ms := List.mem_of_getElem? hp
  have hI := h.inv p hmem
  refine (mdo p.R p.m c W (h.md p hmem) (hI.good hN) hI.sorted hc).mono ?_
  rintro e W' ⟨ns, ls, rfl, R', hM, hmb, hns, hls⟩
  have l1 : (strs ((doP p.m c).1.names.map tx)).length = (doP p.m c).1.names.length := by simp [strs]
  have l2 : ((doP p.m c).1.lens.map (Value.int .i64)).length = (doP p.m c).1.lens.length := by simp
  have hT := h.turn hp (q := ⟨R', p.N + 1, (doP p.m c).2⟩) (hI.doP hN c) hM
  have hall : ∀ y ∈ ms.set i ⟨R', p.N + 1, (doP p.m c).2⟩, ∀ g, W.heap.size ≤ g → R'.L g = none → y.R.L g = none := fun y hy g hg hR => by
    rcases List.mem_or_eq_of_mem_set hy with hy | rfl
    · by_cases e : y.R.L g = none
      · exact e
      · have := (h.md y hy).old g e; omega
    · exact hR
  -- the rows of the lists are none's
  have key : ∀ (v : Value) (xs : List Value), ListS W R' W' v xs → ∃ rs : List (Nat × List Value), (∀ r ∈ rs, RowAt W' r.1 r.2 ∧ ∀ y ∈ ms.set i ⟨R', p.N + 1, (doP p.m c).2⟩, y.R.L r.1 = none) ∧ LsIn rs v xs := fun v xs hl => by
    rcases hl with hl | ⟨g, cap, e, q1, q2, q3⟩
    · exact ⟨[], fun p hp => (by cases hp), .inl hl⟩
    · refine ⟨[(g, xs)], fun r hr => ?_, .inr ⟨g, cap, e, by simp⟩⟩
      rw [List.mem_singleton.1 hr]
      exact ⟨q1, fun y hy => hall y hy g q3 q2⟩
  obtain ⟨r1, p1, i1⟩ := key ns _ hns
  obtain ⟨r2, p2, i2⟩ := key ls _ hls
  obtain ⟨na, nc, rfl⟩ := i1.form
  obtain ⟨la, lc, rfl⟩ := i2.form
  rw [l1] at i1
  rw [l2] at i2
  rw [l1, l2]
  refine ⟨na, la, nc, lc, R', r1 ++ (r2 ++ rows), rfl, hmb, (hT.rowsMore p2).rowsMore p1, fun p hp => by simp [hp], i1.more (fun p hp => by simp [hp]), i2.more (fun p hp => by simp [hp])⟩
/-- what is seen of one -/
theorem mls_view (h : Mls w W ms rows) (hp : p ∈ ms) (hN : p.N ≤ 20000) :
    Calls Tryz.prog 19 #[.pointer (some ⟨p.R.mb, 0, none⟩)] W fun e W' => ∃ a cap rows', e = .returned (.slice a (viewP p.m).length cap) ∧ Mls w W' ms rows' ∧ RSub rows rows' ∧ GIn rows' a itC (viewP p.m) := by
  refine (mview W (h.md p hp) (h.inv p hp) hN).mono ?_
  rintro e W' ⟨v, base, rfl, hO, hB, hbase⟩
  rcases row_formN hO with ⟨e1, rfl⟩ | ⟨g, cap, rfl, hr, hg⟩
  · refine ⟨none, 0, rows, by rw [e1], h.under hB, RSub.refl _, .inl (List.length_eq_zero_iff.1 e1)⟩
  · exact ⟨_, cap, (g, (viewP p.m).flatMap itC) :: rows, rfl, h.put hB hr (Nat.le_trans hbase hg), RSub.cons _, .inr ⟨g, rfl, List.mem_cons_self ..⟩⟩
/-- what is open of one -/
theorem mls_opened (h : Mls w W ms rows) (hp : p ∈ ms) (hN : p.N ≤ 20000) :
    Calls Tryz.prog 21 #[.pointer (some ⟨p.R.mb, 0, none⟩)] W fun e W' => ∃ a cap rows', e = .returned (.slice a (openedP p.m).length cap) ∧ Mls w W' ms rows' ∧ RSub rows rows' ∧ GIn rows' a opC (openedP p.m) := by
  refine (mopened W (h.md p hp) (h.inv p hp) hN).mono ?_
  rintro e W' ⟨v, rfl, hO, hB⟩
  rcases row_formN hO with ⟨e1, rfl⟩ | ⟨g, cap, rfl, hr, hg⟩
  · refine ⟨none, 0, rows, by rw [e1], h.under hB, RSub.refl _, .inl (List.length_eq_zero_iff.1 e1)⟩
  · exact ⟨_, cap, (g, (openedP p.m).flatMap opC) :: rows, rfl, h.put hB hr hg, RSub.cons _, .inr ⟨g, rfl, List.mem_cons_self ..⟩⟩
end

end Go.Proofs.YtppdihpobokfnaaGreatDoor
