/- Walks: a law's run: a stat, a list. -/
import Derived.Test.YtppdihpobokfnaaGreatDoorModW40
import Derived.Test.YtppdihpobokfnaaGreatDoorGJ
import Derived.KernelRfl
set_option linter.unusedVariables false
set_option linter.unusedSimpArgs false
set_option maxRecDepth 100000
namespace Go.Proofs.YtppdihpobokfnaaGreatDoor
open Go.RowKit Go.Joins

/-- what a stat answers, told by what was found -/
def statF (m : Md) (f : Nat × Int) : An := if f.2 ≠ 0 then failA f.2 else { An.zero with st := toldP (m.get f.1) }
theorem statF_n (m : Md) (f : Nat × Int) : (statF m f).n = 0 ∧ (statF m f).d = [] ∧ (statF m f).names = [] ∧ (statF m f).lens = [] := by
  unfold statF
  split <;> exact ⟨rfl, rfl, rfl, rfl⟩
section
variable {w W W' : World} {MB N : Nat} {m : Md} {rows : List (Nat × List Value)}
theorem Lv.drew (h : Lv w MB N W m rows) : Lv w MB N W.drew m rows := h.under ((Below.refl _ _).drew)
theorem lv_stat (h : Lv w MB N W m rows) (hN : N ≤ 900000) (p : ByteArray) :
    Calls Tryz.prog 15 #[.pointer (some ⟨MB, 0, none⟩), .agg #[.int .i64 13, .string p, .string ⟨#[]⟩, .int .i64 0, .int .i64 0, .string ⟨#[]⟩, .bool false]] W fun e W' => ∃ (na la : Option Addr) (nc lc : Nat) (rows' : List (Nat × List Value)),
      e = .returned (.agg #[.int .i64 (statF m (findP m (bts p))).e, .int .i64 0, .string ⟨#[]⟩, .slice na 0 nc, .int .i64 (statF m (findP m (bts p))).st.kind, .int .i64 (statF m (findP m (bts p))).st.size, .int .i64 (statF m (findP m (bts p))).st.links, .bool (statF m (findP m (bts p))).st.pin, .slice la 0 lc, .bool false]) ∧ Lv w MB (N + 1) W' m rows' ∧ RSub rows rows' := by
  refine (lv_do h hN ⟨13, p, ⟨#[]⟩, 0, 0, ⟨#[]⟩, false⟩ (show (Lit.int .i64 13).wf = true by decide)).mono ?_
  have e0 : doP m ⟨13, p, ⟨#[]⟩, 0, 0, ⟨#[]⟩, false⟩ = (statF m (findP m (bts p)), m) := rfl
  rw [e0]
  obtain ⟨q1, q2, q3, q4⟩ := statF_n m (findP m (bts p))
  generalize statF m (findP m (bts p)) = A at *
  obtain ⟨Ae, An, Ad, Ans, Ast, Al⟩ := A
  simp only at q1 q2 q3 q4
  subst q1 q2 q3 q4
  rintro e W' ⟨na, la, nc, lc, rw', rfl, hL, hsub, _, _⟩
  exact ⟨na, la, nc, lc, rw', rfl, hL, hsub⟩
/-- a call: its answer's number, count and bytes -/
theorem lv_do2 (h : Lv w MB N W m rows) (hN : N ≤ 900000) (c : Cl) (hc : (Lit.int .i64 c.k).wf = true) :
    Calls Tryz.prog 15 #[.pointer (some ⟨MB, 0, none⟩), .agg #[.int .i64 c.k, .string c.p, .string c.o, .int .i64 c.fd, .int .i64 c.n, .string c.d, .bool c.on]] W fun e W' => ∃ (na la : Option Addr) (nn nc ln lc : Nat) (k s l : Int) (p : Bool) (rows' : List (Nat × List Value)),
      e = .returned (.agg #[.int .i64 (doP m c).1.e, .int .i64 (doP m c).1.n, .string (tx (doP m c).1.d), .slice na nn nc, .int .i64 k, .int .i64 s, .int .i64 l, .bool p, .slice la ln lc, .bool false]) ∧ Lv w MB (N + 1) W' (doP m c).2 rows' ∧ RSub rows rows' := by
  refine (lv_do h hN c hc).mono ?_
  rintro e W' ⟨na, la, nc, lc, rw', rfl, hL, hsub, _, _⟩
  exact ⟨na, la, _, nc, _, lc, _, _, _, _, rw', rfl, hL, hsub⟩
end
theorem field_e (w : World) (E n : Int) (d : ByteArray) (a1 a2 : Option Addr) (n1 c1 n2 c2 : Nat) (k s l : Int) (p q : Bool) : (Instr.field 33 (.agg #[.int .i64 E, .int .i64 n, .string d, .slice a1 n1 c1, .int .i64 k, .int .i64 s, .int .i64 l, .bool p, .slice a2 n2 c2, .bool q]) 0).run Tryz.prog w = .ok (.int .i64 E) w := by kernel_rfl

end Go.Proofs.YtppdihpobokfnaaGreatDoor
