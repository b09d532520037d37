/-
  No cell of these rows narrows 'for every input' (looked for: loops, veiled, ifaces, maps, wideKeys, modest, calm, conditions, laid).
  DERIVED. THE GIVEN ROWS OF THIS SEAT. 5 by the template 'for every input the law returns true; each argument reads behind the call as it read before'; 0 by the template 'total and deterministic' (their statements: YthnnmhnddpghfaaTotals.lean).
  GIVEN WITH THE SEED: the statements are not yours to turn. If you find one false, say at which input.
  Laid BY PROGRAM, IN A SANDBOX (cutbox-rows.mjs): the forced cells as the released guide's own fill.sh prints them over the translation 6804bfa796f511f4… (all of the seat's roots in one cut). By AI agents, Wed Nov 11 2026. No macro, syntax, notation, axiom, sorry.
-/
import Derived.Test.YthnnmhnddpghfaaChecked
import GoSem.Claim
import GoSem.ClaimJoined
import GoSem.ClaimMapViews
import Derived.JoinedTies
import Derived.KernelRfl
namespace Go.Proofs.Ythnnmhnddpghfaa
/- THE CELL 'sum', in the pinned program and in every row, IS THE sha256 OF THE DUMP (.gsa) THAT YthnnmhnddpghfaaProg.lean LOADS. Nothing in Lean hashes anything: it is a label: what it is worth is what the hold of that sum in a sandbox is worth. -/
noncomputable def Try.pinned : Pinned := { name := "ythnnmhnddpghfaa", sum := "6804bfa796f511f47e451c2e83a6ac32d35e9458750a25479e67de22d4f09086", checked := Try.checked }
namespace Rows
def none {H : Type} : Left H := { results := [], args := [] }

/-- 'glissadelaw21.HandlesKeep': WHATEVER THE INPUT: true; the input reads as it did. -/
def handlesKeepSpec : ChangeSpec := { name := "handlesKeep", fn := fun _ => fun
  | [d1, d2, d3] => { results := [.lit (.bool true)], args := [d1, d2, d3] }
  | _ => none }
def handlesKeepRow : OpenClaim := { program := "ythnnmhnddpghfaa", sum := "6804bfa796f511f47e451c2e83a6ac32d35e9458750a25479e67de22d4f09086", func := "glissade/glissadelaw21.HandlesKeep", spec := "handlesKeep", unfollowed := true, recurses := true, apart := false }
def HandlesKeepSaid : Prop := handlesKeepRow.holds Try.pinned (OpenSpec.ofChange handlesKeepSpec)

/-- ITS FALSE NEIGHBOUR: 'it returns false'. Refute it at one input. -/
def handlesKeepWrong : ChangeSpec := { name := "handlesKeep", fn := fun _ => fun
  | [d1, d2, d3] => { results := [.lit (.bool false)], args := [d1, d2, d3] }
  | _ => none }
def HandlesKeepWrongFalsely : Prop := handlesKeepRow.holds Try.pinned (OpenSpec.ofChange handlesKeepWrong)

/-- 'glissadelaw21.HandlesPlay': WHATEVER THE INPUT: true; the input reads as it did. -/
def handlesPlaySpec : ChangeSpec := { name := "handlesPlay", fn := fun _ => fun
  | [d] => { results := [.lit (.bool true)], args := [d] }
  | _ => none }
def handlesPlayRow : OpenClaim := { program := "ythnnmhnddpghfaa", sum := "6804bfa796f511f47e451c2e83a6ac32d35e9458750a25479e67de22d4f09086", func := "glissade/glissadelaw21.HandlesPlay", spec := "handlesPlay", unfollowed := true, recurses := true, apart := false }
def HandlesPlaySaid : Prop := handlesPlayRow.holds Try.pinned (OpenSpec.ofChange handlesPlaySpec)

/-- ITS FALSE NEIGHBOUR: 'it returns false'. Refute it at one input. -/
def handlesPlayWrong : ChangeSpec := { name := "handlesPlay", fn := fun _ => fun
  | [d] => { results := [.lit (.bool false)], args := [d] }
  | _ => none }
def HandlesPlayWrongFalsely : Prop := handlesPlayRow.holds Try.pinned (OpenSpec.ofChange handlesPlayWrong)

/-- 'glissadelaw21.HandlesAll': WHATEVER THE INPUT: true; the input reads as it did. -/
def handlesAllSpec : ChangeSpec := { name := "handlesAll", fn := fun _ => fun
  | [d1, d2] => { results := [.lit (.bool true)], args := [d1, d2] }
  | _ => none }
def handlesAllRow : OpenClaim := { program := "ythnnmhnddpghfaa", sum := "6804bfa796f511f47e451c2e83a6ac32d35e9458750a25479e67de22d4f09086", func := "glissade/glissadelaw21.HandlesAll", spec := "handlesAll", unfollowed := true, recurses := true, apart := false }
def HandlesAllSaid : Prop := handlesAllRow.holds Try.pinned (OpenSpec.ofChange handlesAllSpec)

/-- ITS FALSE NEIGHBOUR: 'it returns false'. Refute it at one input. -/
def handlesAllWrong : ChangeSpec := { name := "handlesAll", fn := fun _ => fun
  | [d1, d2] => { results := [.lit (.bool false)], args := [d1, d2] }
  | _ => none }
def HandlesAllWrongFalsely : Prop := handlesAllRow.holds Try.pinned (OpenSpec.ofChange handlesAllWrong)

/-- 'glissadelaw21.HandlesTwo': WHATEVER THE INPUT: true; the input reads as it did. -/
def handlesTwoSpec : ChangeSpec := { name := "handlesTwo", fn := fun _ => fun
  | [d1, d2] => { results := [.lit (.bool true)], args := [d1, d2] }
  | _ => none }
def handlesTwoRow : OpenClaim := { program := "ythnnmhnddpghfaa", sum := "6804bfa796f511f47e451c2e83a6ac32d35e9458750a25479e67de22d4f09086", func := "glissade/glissadelaw21.HandlesTwo", spec := "handlesTwo", unfollowed := true, recurses := true, apart := false }
def HandlesTwoSaid : Prop := handlesTwoRow.holds Try.pinned (OpenSpec.ofChange handlesTwoSpec)

/-- ITS FALSE NEIGHBOUR: 'it returns false'. Refute it at one input. -/
def handlesTwoWrong : ChangeSpec := { name := "handlesTwo", fn := fun _ => fun
  | [d1, d2] => { results := [.lit (.bool false)], args := [d1, d2] }
  | _ => none }
def HandlesTwoWrongFalsely : Prop := handlesTwoRow.holds Try.pinned (OpenSpec.ofChange handlesTwoWrong)

/-- 'glissadelaw21.HandlesNone': WHATEVER THE INPUT: true; the input reads as it did. -/
def handlesNoneSpec : ChangeSpec := { name := "handlesNone", fn := fun _ => fun
  | [d1, d2] => { results := [.lit (.bool true)], args := [d1, d2] }
  | _ => none }
def handlesNoneRow : OpenClaim := { program := "ythnnmhnddpghfaa", sum := "6804bfa796f511f47e451c2e83a6ac32d35e9458750a25479e67de22d4f09086", func := "glissade/glissadelaw21.HandlesNone", spec := "handlesNone", unfollowed := true, recurses := true, apart := false }
def HandlesNoneSaid : Prop := handlesNoneRow.holds Try.pinned (OpenSpec.ofChange handlesNoneSpec)

/-- ITS FALSE NEIGHBOUR: 'it returns false'. Refute it at one input. -/
def handlesNoneWrong : ChangeSpec := { name := "handlesNone", fn := fun _ => fun
  | [d1, d2] => { results := [.lit (.bool false)], args := [d1, d2] }
  | _ => none }
def HandlesNoneWrongFalsely : Prop := handlesNoneRow.holds Try.pinned (OpenSpec.ofChange handlesNoneWrong)

/- THE SECOND FORM. 'bulk': how many values and letters a reading holds, each counted each time it is reached (what is shared counts as often as it is met; a slice's spare places count too). A statement '..UptoSaid' is the law's where the arguments, and the package variables that the reading takes, are together of bulk at most 1048576: NARROWER than '..Said'. Prove '..Said' where nothing that the law and all that it calls make is longer than what came in: it says more and counts as full. Else prove '..UptoSaid'. A law counts once. -/
mutual
def uptoBulk {H : Type} : DataW H → Nat
  | .lit (.string bytes) => bytes.length + 1
  | .lit _ => 1
  | .nil => 1
  | .ptr d => uptoBulk d + 1
  | .slice elems spare => uptoBulkAll elems + uptoBulkAll spare + 1
  | .agg parts => uptoBulkAll parts + 1
  | .iface _ d => uptoBulk d + 1
  | .map entries => uptoBulkEntries entries + 1
  | .held _ => 1
def uptoBulkAll {H : Type} : List (DataW H) → Nat
  | [] => 0
  | d :: r => uptoBulk d + uptoBulkAll r
def uptoBulkEntries {H : Type} : List (Lit × DataW H) → Nat
  | [] => 0
  | x :: r => uptoBulkEntry x + uptoBulkEntries r
def uptoBulkEntry {H : Type} : Lit × DataW H → Nat
  | (.string bytes, d) => bytes.length + uptoBulk d + 1
  | (_, d) => uptoBulk d + 1
 end
def uptoSmall : (H : Type) → List (DataW H) → Bool := fun _ ds => decide (uptoBulkAll ds ≤ 1048576)
def OpenSpec.upto (s : _root_.Go.ChangeSpec) : _root_.Go.OpenSpec := { _root_.Go.OpenSpec.ofChange s with cond := some uptoSmall }

/-- 'glissadelaw21.HandlesKeep', WHERE WHAT IT READS IS OF BULK AT MOST 1048576: true; the input reads as it did. -/
def handlesKeepUptoRow : OpenClaim := { program := "ythnnmhnddpghfaa", sum := "6804bfa796f511f47e451c2e83a6ac32d35e9458750a25479e67de22d4f09086", func := "glissade/glissadelaw21.HandlesKeep", spec := "handlesKeep", unfollowed := true, recurses := true, apart := false, narrowed := true }
def HandlesKeepUptoSaid : Prop := handlesKeepUptoRow.holds Try.pinned (OpenSpec.upto handlesKeepSpec)

/-- 'glissadelaw21.HandlesPlay', WHERE WHAT IT READS IS OF BULK AT MOST 1048576: true; the input reads as it did. -/
def handlesPlayUptoRow : OpenClaim := { program := "ythnnmhnddpghfaa", sum := "6804bfa796f511f47e451c2e83a6ac32d35e9458750a25479e67de22d4f09086", func := "glissade/glissadelaw21.HandlesPlay", spec := "handlesPlay", unfollowed := true, recurses := true, apart := false, narrowed := true }
def HandlesPlayUptoSaid : Prop := handlesPlayUptoRow.holds Try.pinned (OpenSpec.upto handlesPlaySpec)

/-- 'glissadelaw21.HandlesAll', WHERE WHAT IT READS IS OF BULK AT MOST 1048576: true; the input reads as it did. -/
def handlesAllUptoRow : OpenClaim := { program := "ythnnmhnddpghfaa", sum := "6804bfa796f511f47e451c2e83a6ac32d35e9458750a25479e67de22d4f09086", func := "glissade/glissadelaw21.HandlesAll", spec := "handlesAll", unfollowed := true, recurses := true, apart := false, narrowed := true }
def HandlesAllUptoSaid : Prop := handlesAllUptoRow.holds Try.pinned (OpenSpec.upto handlesAllSpec)

/-- 'glissadelaw21.HandlesTwo', WHERE WHAT IT READS IS OF BULK AT MOST 1048576: true; the input reads as it did. -/
def handlesTwoUptoRow : OpenClaim := { program := "ythnnmhnddpghfaa", sum := "6804bfa796f511f47e451c2e83a6ac32d35e9458750a25479e67de22d4f09086", func := "glissade/glissadelaw21.HandlesTwo", spec := "handlesTwo", unfollowed := true, recurses := true, apart := false, narrowed := true }
def HandlesTwoUptoSaid : Prop := handlesTwoUptoRow.holds Try.pinned (OpenSpec.upto handlesTwoSpec)

/-- 'glissadelaw21.HandlesNone', WHERE WHAT IT READS IS OF BULK AT MOST 1048576: true; the input reads as it did. -/
def handlesNoneUptoRow : OpenClaim := { program := "ythnnmhnddpghfaa", sum := "6804bfa796f511f47e451c2e83a6ac32d35e9458750a25479e67de22d4f09086", func := "glissade/glissadelaw21.HandlesNone", spec := "handlesNone", unfollowed := true, recurses := true, apart := false, narrowed := true }
def HandlesNoneUptoSaid : Prop := handlesNoneUptoRow.holds Try.pinned (OpenSpec.upto handlesNoneSpec)

end Rows
end Go.Proofs.Ythnnmhnddpghfaa
