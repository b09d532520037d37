/- A part of a proof. -/
import Derived.Test.YtppdihpobokfnaaGreatDoorModW26
import Derived.Test.YtppdihpobokfnaaGreatDoorGD
import Derived.Test.YtppdihpobokfnaaGreatDoorModW18
import Derived.Test.YtppdihpobokfnaaGreatDoorModW22
import Derived.Test.YtppdihpobokfnaaGreatDoorModW24
import Derived.Test.YtppdihpobokfnaaGreatDoorModW25
import Derived.Test.YtppdihpobokfnaaGreatDoorModW12
set_option linter.unusedVariables false
set_option linter.unusedSimpArgs false
set_option maxRecDepth 100000
namespace Go.Proofs.YtppdihpobokfnaaGreatDoor
open Go.RowKit Go.Joins
def NoL (a : An) : Prop := a.names = [] ∧ a.lens = []
theorem nol_fail (z : Int) : NoL (failA z) := ⟨rfl, rfl⟩
theorem nol_zero : NoL An.zero := ⟨rfl, rfl⟩
section
variable (m : Md) (c : Cl)
theorem nol_openAt (k : Nat) : NoL (openAt m c k).1 := by
 unfold openAt
 try simp only []
 repeat' split
 all_goals first | exact nol_fail _ | exact nol_zero | exact ⟨rfl, rfl⟩
theorem nol_openP : NoL (openP m c).1 := by
 unfold openP
 try simp only []
 repeat' split
 all_goals first | exact nol_fail _ | exact nol_zero | exact ⟨rfl, rfl⟩ | exact nol_openAt _ _ _
theorem nol_closeP : NoL (closeP m c).1 := by
 unfold closeP
 try simp only []
 repeat' split
 all_goals first | exact nol_fail _ | exact nol_zero | exact ⟨rfl, rfl⟩
theorem nol_readP : NoL (readP m c).1 := by
 unfold readP
 try simp only []
 repeat' split
 all_goals first | exact nol_fail _ | exact nol_zero | exact ⟨rfl, rfl⟩
theorem nol_seekP : NoL (seekP m c).1 := by
 unfold seekP
 try simp only []
 repeat' split
 all_goals first | exact nol_fail _ | exact nol_zero | exact ⟨rfl, rfl⟩
theorem nol_resizeP : NoL (resizeP m c).1 := by
 unfold resizeP
 try simp only []
 repeat' split
 all_goals first | exact nol_fail _ | exact nol_zero | exact ⟨rfl, rfl⟩
theorem nol_mkdirP : NoL (mkdirP m c).1 := by
 unfold mkdirP
 try simp only []
 repeat' split
 all_goals first | exact nol_fail _ | exact nol_zero | exact ⟨rfl, rfl⟩
theorem nol_rmdirP : NoL (rmdirP m c).1 := by
 unfold rmdirP
 try simp only []
 repeat' split
 all_goals first | exact nol_fail _ | exact nol_zero | exact ⟨rfl, rfl⟩
theorem nol_lnkP : NoL (lnkP m c).1 := by
 unfold lnkP
 try simp only []
 repeat' split
 all_goals first | exact nol_fail _ | exact nol_zero | exact ⟨rfl, rfl⟩
theorem nol_unlinkP : NoL (unlinkP m c).1 := by
 unfold unlinkP
 try simp only []
 repeat' split
 all_goals first | exact nol_fail _ | exact nol_zero | exact ⟨rfl, rfl⟩
theorem nol_renameP : NoL (renameP m c).1 := by
 unfold renameP
 try simp only []
 repeat' split
 all_goals first | exact nol_fail _ | exact nol_zero | exact ⟨rfl, rfl⟩
theorem nol_pinP : NoL (pinP m c).1 := by
 unfold pinP
 try simp only []
 repeat' split
 all_goals first | exact nol_fail _ | exact nol_zero | exact ⟨rfl, rfl⟩
theorem nol_putP (n : Nat) : NoL (putP m c n).1 := by
 unfold putP
 repeat' split
 all_goals first | exact nol_fail _ | exact nol_zero | exact ⟨rfl, rfl⟩
theorem nol_statP : NoL (statP m c) := by
 unfold statP
 try simp only []
 repeat' split
 all_goals first | exact nol_fail _ | exact nol_zero | exact ⟨rfl, rfl⟩
theorem nol_fstatP : NoL (fstatP m c) := by
 unfold fstatP
 repeat' split
 all_goals first | exact nol_fail _ | exact nol_zero | exact ⟨rfl, rfl⟩
theorem nol_sameP : NoL (sameP m c) := nol_fail _
end
theorem mdo (R : Rp) (m : Md) (c : Cl) (w : World) (h : MdAt w R m) (hG : Good m) (hS : ∀ k d, lookK m.nodes k = some d → d.names.Pairwise fun x y => x.1 ≤ y.1) (hcr : (Lit.int .i64 c.k).wf = true) :
  Calls Tryz.prog 15 #[.pointer (some ⟨R.mb, 0, none⟩), .agg #[.int .i64 c.k, .string c.p, .string c.o, .int .i64 c.fd, .int .i64 c.n, .string c.d, .bool c.on]] w (OpG w R (doP m c)) := by
 by_cases hr : 1 ≤ c.k ∧ c.k ≤ 20
 · have hk : c.k = 1 ∨ c.k = 2 ∨ c.k = 3 ∨ c.k = 4 ∨ c.k = 5 ∨ c.k = 6 ∨ c.k = 7 ∨ c.k = 8 ∨ c.k = 9 ∨ c.k = 10 ∨ c.k = 11 ∨ c.k = 12 ∨ c.k = 13 ∨ c.k = 14 ∨ c.k = 15 ∨ c.k = 16 ∨ c.k = 17 ∨ c.k = 18 ∨ c.k = 19 ∨ c.k = 20 := by omega
   rcases hk with e | e | e | e | e | e | e | e | e | e | e | e | e | e | e | e | e | e | e | e
   · have hd : doP m c = openP m c := by unfold doP; rw [e]; rfl
     rw [hd]
     exact mdo_yes R m c w h hcr hr 37 (by rw [e]; rfl) (enters_of Tryz.func37 (by kernel_rfl) rfl) _ (Lh fun W hW => (mopen R m c W hW hG).mono fun e9 w9 h9 => OpR.all h9 (nol_openP m c).1 (nol_openP m c).2)
   · have hd : doP m c = closeP m c := by unfold doP; rw [e]; rfl
     rw [hd]
     exact mdo_yes R m c w h hcr hr 38 (by rw [e]; rfl) (enters_of Tryz.func38 (by kernel_rfl) rfl) _ (Lh fun W hW => (mclose R m c W hW hG).mono fun e9 w9 h9 => OpR.all h9 (nol_closeP m c).1 (nol_closeP m c).2)
   · have hd : doP m c = readP m c := by unfold doP; rw [e]; rfl
     rw [hd]
     exact mdo_yes R m c w h hcr hr 39 (by rw [e]; rfl) (enters_of Tryz.func39 (by kernel_rfl) rfl) _ (Lh fun W hW => (mread R m c W hW hG).mono fun e9 w9 h9 => OpR.all h9 (nol_readP m c).1 (nol_readP m c).2)
   · have hd : doP m c = putP m c c.d.size := by unfold doP; rw [e]; rfl
     rw [hd]
     exact mdo_yes R m c w h hcr hr 40 (by rw [e]; rfl) (enters_of Tryz.func40 (by kernel_rfl) rfl) _ (Lh fun W hW => (mwrite R m c W hW hG).mono fun e9 w9 h9 => OpR.all h9 (nol_putP m c c.d.size).1 (nol_putP m c c.d.size).2)
   · have hd : doP m c = seekP m c := by unfold doP; rw [e]; rfl
     rw [hd]
     exact mdo_yes R m c w h hcr hr 41 (by rw [e]; rfl) (enters_of Tryz.func41 (by kernel_rfl) rfl) _ (Lh fun W hW => (mseek R m c W hW hG).mono fun e9 w9 h9 => OpR.all h9 (nol_seekP m c).1 (nol_seekP m c).2)
   · have hd : doP m c = resizeP m c := by unfold doP; rw [e]; rfl
     rw [hd]
     exact mdo_yes R m c w h hcr hr 42 (by rw [e]; rfl) (enters_of Tryz.func42 (by kernel_rfl) rfl) _ (Lh fun W hW => (mresize R m c W hW hG).mono fun e9 w9 h9 => OpR.all h9 (nol_resizeP m c).1 (nol_resizeP m c).2)
   · have hd : doP m c = mkdirP m c := by unfold doP; rw [e]; rfl
     rw [hd]
     exact mdo_yes R m c w h hcr hr 43 (by rw [e]; rfl) (enters_of Tryz.func43 (by kernel_rfl) rfl) _ (Lh fun W hW => (mmkdir R m c W hW hG).mono fun e9 w9 h9 => OpR.all h9 (nol_mkdirP m c).1 (nol_mkdirP m c).2)
   · have hd : doP m c = rmdirP m c := by unfold doP; rw [e]; rfl
     rw [hd]
     exact mdo_yes R m c w h hcr hr 44 (by rw [e]; rfl) (enters_of Tryz.func44 (by kernel_rfl) rfl) _ (Lh fun W hW => (mrmdir R m c W hW hG).mono fun e9 w9 h9 => OpR.all h9 (nol_rmdirP m c).1 (nol_rmdirP m c).2)
   · have hd : doP m c = lnkP m c := by unfold doP; rw [e]; rfl
     rw [hd]
     exact mdo_yes R m c w h hcr hr 45 (by rw [e]; rfl) (enters_of Tryz.func45 (by kernel_rfl) rfl) _ (Lh fun W hW => (mlink R m c W hW hG).mono fun e9 w9 h9 => OpR.all h9 (nol_lnkP m c).1 (nol_lnkP m c).2)
   · have hd : doP m c = unlinkP m c := by unfold doP; rw [e]; rfl
     rw [hd]
     exact mdo_yes R m c w h hcr hr 46 (by rw [e]; rfl) (enters_of Tryz.func46 (by kernel_rfl) rfl) _ (Lh fun W hW => (munlink R m c W hW hG).mono fun e9 w9 h9 => OpR.all h9 (nol_unlinkP m c).1 (nol_unlinkP m c).2)
   · have hd : doP m c = renameP m c := by unfold doP; rw [e]; rfl
     rw [hd]
     exact mdo_yes R m c w h hcr hr 47 (by rw [e]; rfl) (enters_of Tryz.func47 (by kernel_rfl) rfl) _ (Lh fun W hW => (mrename R m c W hW hG).mono fun e9 w9 h9 => OpR.all h9 (nol_renameP m c).1 (nol_renameP m c).2)
   · have hd : doP m c = (listP m c, m) := by unfold doP; rw [e]; rfl
     rw [hd]
     exact mdo_yes R m c w h hcr hr 48 (by rw [e]; rfl) (enters_of Tryz.func48 (by kernel_rfl) rfl) _ (Lh fun W hW => (mlist R m c W hW hG hS).mono fun e9 w9 h9 => h9)
   · have hd : doP m c = (statP m c, m) := by unfold doP; rw [e]; rfl
     rw [hd]
     exact mdo_yes R m c w h hcr hr 49 (by rw [e]; rfl) (enters_of Tryz.func49 (by kernel_rfl) rfl) _ (Lh fun W hW => (mstat R m c W hW hG).mono fun e9 w9 h9 => OpR.all h9 (nol_statP m c).1 (nol_statP m c).2)
   · have hd : doP m c = (fstatP m c, m) := by unfold doP; rw [e]; rfl
     rw [hd]
     exact mdo_yes R m c w h hcr hr 50 (by rw [e]; rfl) (enters_of Tryz.func50 (by kernel_rfl) rfl) _ (Lh fun W hW => (mfstat R m c W hW hG).mono fun e9 w9 h9 => OpR.all h9 (nol_fstatP m c).1 (nol_fstatP m c).2)
   · have hd : doP m c = pinP m c := by unfold doP; rw [e]; rfl
     rw [hd]
     exact mdo_yes R m c w h hcr hr 51 (by rw [e]; rfl) (enters_of Tryz.func51 (by kernel_rfl) rfl) _ (Lh fun W hW => (mpin R m c W hW hG).mono fun e9 w9 h9 => OpR.all h9 (nol_pinP m c).1 (nol_pinP m c).2)
   · have hd : doP m c = (sameP m c, m) := by unfold doP; rw [e]; rfl
     rw [hd]
     exact mdo_yes R m c w h hcr hr 52 (by rw [e]; rfl) (enters_of Tryz.func52 (by kernel_rfl) rfl) _ (Lh fun W hW => (msame R m c W hW).mono fun e9 w9 h9 => OpR.all h9 (nol_sameP m c).1 (nol_sameP m c).2)
   · have hd : doP m c = (An.zero, m) := by unfold doP; rw [e]; rfl
     rw [hd]
     exact mdo_yes R m c w h hcr hr 53 (by rw [e]; rfl) (enters_of Tryz.func53 (by kernel_rfl) rfl) _ (Lh fun W hW => (mnothing R m c W hW hG).mono fun e9 w9 h9 => OpR.all h9 nol_zero.1 nol_zero.2)
   · have hd : doP m c = (usageP m, m) := by unfold doP; rw [e]; rfl
     rw [hd]
     exact mdo_yes R m c w h hcr hr 54 (by rw [e]; rfl) (enters_of Tryz.func54 (by kernel_rfl) rfl) _ (Lh fun W hW => (musage R m c W hW hG).mono fun e9 w9 h9 => h9)
   · have hd : doP m c = (An.zero, m) := by unfold doP; rw [e]; rfl
     rw [hd]
     exact mdo_yes R m c w h hcr hr 53 (by rw [e]; rfl) (enters_of Tryz.func53 (by kernel_rfl) rfl) _ (Lh fun W hW => (mnothing R m c W hW hG).mono fun e9 w9 h9 => OpR.all h9 nol_zero.1 nol_zero.2)
   · have hd : doP m c = (An.zero, m) := by unfold doP; rw [e]; rfl
     rw [hd]
     exact mdo_yes R m c w h hcr hr 53 (by rw [e]; rfl) (enters_of Tryz.func53 (by kernel_rfl) rfl) _ (Lh fun W hW => (mnothing R m c W hW hG).mono fun e9 w9 h9 => OpR.all h9 nol_zero.1 nol_zero.2)
 · have hd : doP m c = (failA 2, m) := by
    unfold doP
    split <;> first | rfl | (exfalso; omega)
   rw [hd]
   exact mdo_no R m c w h hcr hr
end Go.Proofs.YtppdihpobokfnaaGreatDoor
