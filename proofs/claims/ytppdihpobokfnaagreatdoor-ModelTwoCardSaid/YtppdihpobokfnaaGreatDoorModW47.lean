/- Walks: several models in a law's run: a call with its answer's cells, one more that is played, a clone. -/
import Derived.Test.YtppdihpobokfnaaGreatDoorModW46
set_option linter.unusedVariables false
set_option linter.unusedSimpArgs false
set_option maxRecDepth 100000
namespace Go.Proofs.YtppdihpobokfnaaGreatDoor
open Go.RowKit Go.Joins

theorem fail_lists (e : Int) : (failA e).names = [] ∧ (failA e).lens = [] := ⟨rfl, rfl⟩
theorem lists_doP (m : Md) (c : Cl) : ((doP m c).1.names = [] ∨ ∃ k, (doP m c).1.names = (m.get k).names.map (·.1)) ∧ (doP m c).1.lens.length ≤ 1 := by
  unfold doP
  split
  · refine ⟨.inl ?_, ?_⟩ <;> (unfold openP openAt; (try simp only []); repeat' split) <;> first | rfl | exact Nat.zero_le _
  · exact ⟨.inl rfl, Nat.zero_le _⟩
  · refine ⟨.inl ?_, ?_⟩ <;> (unfold readP; (try simp only []); repeat' split) <;> first | rfl | exact Nat.zero_le _
  · refine ⟨.inl ?_, ?_⟩ <;> (unfold putP; (try simp only []); repeat' split) <;> first | rfl | exact Nat.zero_le _
  · refine ⟨.inl ?_, ?_⟩ <;> (unfold seekP; (try simp only []); repeat' split) <;> first | rfl | exact Nat.zero_le _
  · refine ⟨.inl ?_, ?_⟩ <;> (unfold resizeP; (try simp only []); repeat' split) <;> first | rfl | exact Nat.zero_le _
  · refine ⟨.inl ?_, ?_⟩ <;> (unfold mkdirP; (try simp only []); repeat' split) <;> first | rfl | exact Nat.zero_le _
  · refine ⟨.inl ?_, ?_⟩ <;> (unfold rmdirP; (try simp only []); repeat' split) <;> first | rfl | exact Nat.zero_le _
  · refine ⟨.inl ?_, ?_⟩ <;> (unfold lnkP; (try simp only []); repeat' split) <;> first | rfl | exact Nat.zero_le _
  · refine ⟨.inl ?_, ?_⟩ <;> (unfold unlinkP; (try simp only []); repeat' split) <;> first | rfl | exact Nat.zero_le _
  · refine ⟨.inl ?_, ?_⟩ <;> (unfold renameP; (try simp only []); repeat' split) <;> first | rfl | exact Nat.zero_le _
  · unfold listP
    simp only []
    split
    · exact ⟨.inl rfl, Nat.zero_le _⟩
    · split
      · exact ⟨.inl rfl, Nat.zero_le _⟩
      · exact ⟨.inr ⟨_, rfl⟩, Nat.zero_le _⟩
  · refine ⟨.inl ?_, ?_⟩ <;> (unfold statP; (try simp only []); repeat' split) <;> first | rfl | exact Nat.zero_le _
  · refine ⟨.inl ?_, ?_⟩ <;> (unfold fstatP; (try simp only []); repeat' split) <;> first | rfl | exact Nat.zero_le _
  · refine ⟨.inl ?_, ?_⟩ <;> (unfold pinP; (try simp only []); repeat' split) <;> first | rfl | exact Nat.zero_le _
  · exact ⟨.inl rfl, Nat.zero_le _⟩
  · exact ⟨.inl rfl, Nat.zero_le _⟩
  · exact ⟨.inl rfl, Nat.le_refl _⟩
  · exact ⟨.inl rfl, Nat.zero_le _⟩
  · exact ⟨.inl rfl, Nat.zero_le _⟩
  · exact ⟨.inl rfl, Nat.zero_le _⟩
theorem ans_names_le {N : Nat} {m : Md} (h : Inv N Nul m) (c : Cl) : (doP m c).1.names.length ≤ N ∧ (doP m c).1.lens.length ≤ 1 := by
  obtain ⟨h1, h2⟩ := lists_doP m c
  refine ⟨?_, h2⟩
  rcases h1 with h1 | ⟨k, h1⟩
  · rw [h1]; exact Nat.zero_le _
  · rw [h1, List.length_map]
    cases hk : lookK m.nodes k with
    | none =>
      rw [Md.get, hk]
      exact Nat.zero_le _
    | some d =>
      rw [Md.get_look hk]
      have h3 := count_dir h.rise hk
      have h4 := List.countP_le_length (p := fun e : En => e.dir == k) (l := entsOf m.nodes)
      have h5 := h.few
      omega
/-- a call's cells, at its place -/
theorem cl_cells {W : World} {P o : Nat} {V : List Cl} {i : Nat} {x : Cl} (h : ValG W (some ⟨P, o, none⟩) 7 (V.map callC)) (hx : V[i]? = some x) : W.cell? ⟨P, o + i * 7, none⟩ = some (.int .i64 x.k) ∧ W.cell? ⟨P, o + i * 7 + 1, none⟩ = some (.string x.p) ∧ W.cell? ⟨P, o + i * 7 + 2, none⟩ = some (.string x.o) ∧ W.cell? ⟨P, o + i * 7 + 3, none⟩ = some (.int .i64 x.fd) ∧ W.cell? ⟨P, o + i * 7 + 4, none⟩ = some (.int .i64 x.n) ∧ W.cell? ⟨P, o + i * 7 + 5, none⟩ = some (.string x.d) ∧ W.cell? ⟨P, o + i * 7 + 6, none⟩ = some (.bool x.on) := by
  obtain ⟨Q, q, e, _, hA⟩ := h.at (i := i) (xs := callC x) (by rw [List.getElem?_map, hx]; rfl)
  injection e with e
  injection e with e1 e2
  subst e1 e2
  exact ⟨hA 0 _ rfl, hA 1 _ rfl, hA 2 _ rfl, hA 3 _ rfl, hA 4 _ rfl, hA 5 _ rfl, hA 6 _ rfl⟩

section
variable {w W W' : World} {ms : List Ml} {rows : List (Nat × List Value)} {p : Ml}
/-- a call, its answer's cells told by what the model answers -/
theorem mls_do2 (h : Mls w W ms rows) {i : Nat} (hp : ms[i]? = some p) (hN : p.N ≤ 900000) (c : Cl) (hc : (Lit.int .i64 c.k).wf = true) (MB : Nat) (hmb : p.R.mb = MB) (A : An) (m' : Md) (hA : doP p.m c = (A, m')) (ns : List ByteArray) (hns : ns = A.names.map tx) :
    Calls Tryz.prog 15 #[.pointer (some ⟨MB, 0, none⟩), .agg #[.int .i64 c.k, .string c.p, .string c.o, .int .i64 c.fd, .int .i64 c.n, .string c.d, .bool c.on]] W fun e W' => ∃ (na la : Option Addr) (nc lc : Nat) (R' : Rp) (rows' : List (Nat × List Value)),
      e = .returned (.agg #[.int .i64 A.e, .int .i64 A.n, .string (tx A.d), .slice na ns.length nc, .int .i64 A.st.kind, .int .i64 A.st.size, .int .i64 A.st.links, .bool A.st.pin, .slice la A.lens.length lc, .bool false]) ∧ R'.mb = MB ∧
      Mls w W' (ms.set i ⟨R', p.N + 1, m'⟩) rows' ∧ RSub rows rows' ∧ LsIn rows' (.slice na ns.length nc) (strs ns) ∧ LsIn rows' (.slice la A.lens.length lc) (A.lens.map (Value.int .i64)) := by
  subst hmb hns
  refine (mls_do h hp hN c hc).mono ?_
  rw [hA]
  rintro e W' ⟨na, la, nc, lc, R', rows', rfl, h1, h2, h3, h4, h5⟩
  rw [List.length_map]
  exact ⟨na, la, nc, lc, R', rows', rfl, h1, h2, h3, h4, h5⟩
/-- one more model, behind calls -/
theorem mls_played (h : Mls w W ms rows) (n : Nat) (hn : 8 ≤ n ∧ n ≤ 512) (a : Option Addr) (cap : Nat) (l : List Cl) (hV : ValG W a 7 (l.map callC)) (hk : ∀ c ∈ l, ClOk c) (hl : l.length ≤ 1000) :
    Calls Tryz.prog 14 #[.int .i64 (n : Int), .slice a l.length cap] W fun e W' => ∃ (q : Ml), e = .returned (.pointer (some ⟨q.R.mb, 0, none⟩)) ∧ q.N = l.length ∧ q.m = playP (newP n) l ∧ Mls w W' (ms ++ [q]) rows ∧ Below W.heap.size W W' := by
  refine (lv_played (w := W) (W := W) (Below.refl _ _) n hn a cap l hV hk hl [] (fun p hp => by cases hp)).mono ?_
  rintro e W' ⟨MB, rows', rfl, hL, _⟩
  obtain ⟨q, rfl, h2, h3, h4⟩ := h.of_lv hL
  exact ⟨q, rfl, h2, h3, h4, hL.below⟩
/-- a clone comes -/
theorem mls_clone (h : Mls w W ms rows) (hp : p ∈ ms) :
    Calls Tryz.prog 31 #[.pointer (some ⟨p.R.mb, 0, none⟩)] W fun e W' => ∃ (R' : Rp), e = .returned (.pointer (some ⟨R'.mb, 0, none⟩)) ∧ Mls w W' (ms ++ [⟨R', p.N, p.m⟩]) rows ∧ Below W.heap.size W W' := by
  refine (mclone p.R p.m W (h.md p hp) (h.inv p hp)).mono ?_
  rintro e W' ⟨R', rfl, h1, h2, h3⟩
  exact ⟨R', rfl, h.come h2 (q := ⟨R', p.N, p.m⟩) (h.inv p hp) h1 h3, h2⟩
end

end Go.Proofs.YtppdihpobokfnaaGreatDoor
