/-
  No cell of these rows narrows 'for every input' (looked for: loops, veiled, ifaces, maps, wideKeys, modest, calm, conditions, laid).
  DERIVED. THE GIVEN ROWS OF THIS SEAT. 8 by the template 'for every input the law returns true; each argument reads behind the call as it read before'; 0 by the template 'total and deterministic' (their statements: YtfgnemddamebaaaTotals.lean).
  GIVEN WITH THE SEED: the statements are not yours to turn. If you find one false, say at which input.
  Laid BY PROGRAM, IN A SANDBOX (cutbox-rows.mjs): the forced cells as the released guide's own fill.sh prints them over the translation fef767b1b6ff6b21… (all of the seat's roots in one cut). By AI agents, Wed Nov 11 2026. No macro, syntax, notation, axiom, sorry.
-/
import Derived.Test.YtfgnemddamebaaaChecked
import GoSem.Claim
import GoSem.ClaimJoined
import GoSem.ClaimMapViews
import Derived.JoinedTies
import Derived.KernelRfl
namespace Go.Proofs.Ytfgnemddamebaaa
/- THE CELL 'sum', in the pinned program and in every row, IS THE sha256 OF THE DUMP (.gsa) THAT YtfgnemddamebaaaProg.lean LOADS. Nothing in Lean hashes anything: it is a label: what it is worth is what the hold of that sum in a sandbox is worth. -/
noncomputable def Try.pinned : Pinned := { name := "ytfgnemddamebaaa", sum := "fef767b1b6ff6b21f028f9a92268feb0e474fb312ea55368820ca44af37b23da", checked := Try.checked }
namespace Rows
def none {H : Type} : Left H := { results := [], args := [] }

/-- 'glissadelaw08.RecordsEncode': WHATEVER THE INPUT: true; the input reads as it did. -/
def recordsEncodeSpec : ChangeSpec := { name := "recordsEncode", fn := fun _ => fun
  | [d] => { results := [.lit (.bool true)], args := [d] }
  | _ => none }
def recordsEncodeRow : OpenClaim := { program := "ytfgnemddamebaaa", sum := "fef767b1b6ff6b21f028f9a92268feb0e474fb312ea55368820ca44af37b23da", func := "glissade/glissadelaw08.RecordsEncode", spec := "recordsEncode", inPlace := ["internal/abi.NoEscape", "internal/bytealg.MakeNoZero"], apart := false }
def RecordsEncodeSaid : Prop := recordsEncodeRow.holds Try.pinned (OpenSpec.ofChange recordsEncodeSpec)

/-- ITS FALSE NEIGHBOUR: 'it returns false'. Refute it at one input. -/
def recordsEncodeWrong : ChangeSpec := { name := "recordsEncode", fn := fun _ => fun
  | [d] => { results := [.lit (.bool false)], args := [d] }
  | _ => none }
def RecordsEncodeWrongFalsely : Prop := recordsEncodeRow.holds Try.pinned (OpenSpec.ofChange recordsEncodeWrong)

/-- 'glissadelaw08.RecordsDecode': WHATEVER THE INPUT: true; the input reads as it did. -/
def recordsDecodeSpec : ChangeSpec := { name := "recordsDecode", fn := fun _ => fun
  | [d] => { results := [.lit (.bool true)], args := [d] }
  | _ => none }
def recordsDecodeRow : OpenClaim := { program := "ytfgnemddamebaaa", sum := "fef767b1b6ff6b21f028f9a92268feb0e474fb312ea55368820ca44af37b23da", func := "glissade/glissadelaw08.RecordsDecode", spec := "recordsDecode", inPlace := ["internal/abi.NoEscape", "internal/bytealg.MakeNoZero"], apart := false }
def RecordsDecodeSaid : Prop := recordsDecodeRow.holds Try.pinned (OpenSpec.ofChange recordsDecodeSpec)

/-- ITS FALSE NEIGHBOUR: 'it returns false'. Refute it at one input. -/
def recordsDecodeWrong : ChangeSpec := { name := "recordsDecode", fn := fun _ => fun
  | [d] => { results := [.lit (.bool false)], args := [d] }
  | _ => none }
def RecordsDecodeWrongFalsely : Prop := recordsDecodeRow.holds Try.pinned (OpenSpec.ofChange recordsDecodeWrong)

/-- 'glissadelaw08.RecordsMask': WHATEVER THE INPUT: true; the input reads as it did. -/
def recordsMaskSpec : ChangeSpec := { name := "recordsMask", fn := fun _ => fun
  | [d] => { results := [.lit (.bool true)], args := [d] }
  | _ => none }
def recordsMaskRow : OpenClaim := { program := "ytfgnemddamebaaa", sum := "fef767b1b6ff6b21f028f9a92268feb0e474fb312ea55368820ca44af37b23da", func := "glissade/glissadelaw08.RecordsMask", spec := "recordsMask", inPlace := ["internal/abi.NoEscape", "internal/bytealg.MakeNoZero"], apart := false }
def RecordsMaskSaid : Prop := recordsMaskRow.holds Try.pinned (OpenSpec.ofChange recordsMaskSpec)

/-- ITS FALSE NEIGHBOUR: 'it returns false'. Refute it at one input. -/
def recordsMaskWrong : ChangeSpec := { name := "recordsMask", fn := fun _ => fun
  | [d] => { results := [.lit (.bool false)], args := [d] }
  | _ => none }
def RecordsMaskWrongFalsely : Prop := recordsMaskRow.holds Try.pinned (OpenSpec.ofChange recordsMaskWrong)

/-- 'glissadelaw08.RecordsBack': WHATEVER THE INPUT: true; the input reads as it did. -/
def recordsBackSpec : ChangeSpec := { name := "recordsBack", fn := fun _ => fun
  | [d1, d2] => { results := [.lit (.bool true)], args := [d1, d2] }
  | _ => none }
def recordsBackRow : OpenClaim := { program := "ytfgnemddamebaaa", sum := "fef767b1b6ff6b21f028f9a92268feb0e474fb312ea55368820ca44af37b23da", func := "glissade/glissadelaw08.RecordsBack", spec := "recordsBack", inPlace := ["internal/abi.NoEscape", "internal/bytealg.MakeNoZero"], apart := false }
def RecordsBackSaid : Prop := recordsBackRow.holds Try.pinned (OpenSpec.ofChange recordsBackSpec)

/-- ITS FALSE NEIGHBOUR: 'it returns false'. Refute it at one input. -/
def recordsBackWrong : ChangeSpec := { name := "recordsBack", fn := fun _ => fun
  | [d1, d2] => { results := [.lit (.bool false)], args := [d1, d2] }
  | _ => none }
def RecordsBackWrongFalsely : Prop := recordsBackRow.holds Try.pinned (OpenSpec.ofChange recordsBackWrong)

/-- 'glissadelaw08.RecordsNone': WHATEVER THE INPUT: true; the input reads as it did. -/
def recordsNoneSpec : ChangeSpec := { name := "recordsNone", fn := fun _ => fun
  | [d] => { results := [.lit (.bool true)], args := [d] }
  | _ => none }
def recordsNoneRow : OpenClaim := { program := "ytfgnemddamebaaa", sum := "fef767b1b6ff6b21f028f9a92268feb0e474fb312ea55368820ca44af37b23da", func := "glissade/glissadelaw08.RecordsNone", spec := "recordsNone", inPlace := ["internal/abi.NoEscape", "internal/bytealg.MakeNoZero"], apart := false }
def RecordsNoneSaid : Prop := recordsNoneRow.holds Try.pinned (OpenSpec.ofChange recordsNoneSpec)

/-- ITS FALSE NEIGHBOUR: 'it returns false'. Refute it at one input. -/
def recordsNoneWrong : ChangeSpec := { name := "recordsNone", fn := fun _ => fun
  | [d] => { results := [.lit (.bool false)], args := [d] }
  | _ => none }
def RecordsNoneWrongFalsely : Prop := recordsNoneRow.holds Try.pinned (OpenSpec.ofChange recordsNoneWrong)

/-- 'glissadelaw08.RecordsFields': WHATEVER THE INPUT: true; the input reads as it did. -/
def recordsFieldsSpec : ChangeSpec := { name := "recordsFields", fn := fun _ => fun
  | [d1, d2] => { results := [.lit (.bool true)], args := [d1, d2] }
  | _ => none }
def recordsFieldsRow : OpenClaim := { program := "ytfgnemddamebaaa", sum := "fef767b1b6ff6b21f028f9a92268feb0e474fb312ea55368820ca44af37b23da", func := "glissade/glissadelaw08.RecordsFields", spec := "recordsFields", inPlace := ["internal/abi.NoEscape", "internal/bytealg.MakeNoZero"], apart := false }
def RecordsFieldsSaid : Prop := recordsFieldsRow.holds Try.pinned (OpenSpec.ofChange recordsFieldsSpec)

/-- ITS FALSE NEIGHBOUR: 'it returns false'. Refute it at one input. -/
def recordsFieldsWrong : ChangeSpec := { name := "recordsFields", fn := fun _ => fun
  | [d1, d2] => { results := [.lit (.bool false)], args := [d1, d2] }
  | _ => none }
def RecordsFieldsWrongFalsely : Prop := recordsFieldsRow.holds Try.pinned (OpenSpec.ofChange recordsFieldsWrong)

/-- 'glissadelaw08.RecordsMany': WHATEVER THE INPUT: true; the input reads as it did. -/
def recordsManySpec : ChangeSpec := { name := "recordsMany", fn := fun _ => fun
  | [d1, d2] => { results := [.lit (.bool true)], args := [d1, d2] }
  | _ => none }
def recordsManyRow : OpenClaim := { program := "ytfgnemddamebaaa", sum := "fef767b1b6ff6b21f028f9a92268feb0e474fb312ea55368820ca44af37b23da", func := "glissade/glissadelaw08.RecordsMany", spec := "recordsMany", inPlace := ["internal/abi.NoEscape", "internal/bytealg.MakeNoZero"], apart := false }
def RecordsManySaid : Prop := recordsManyRow.holds Try.pinned (OpenSpec.ofChange recordsManySpec)

/-- ITS FALSE NEIGHBOUR: 'it returns false'. Refute it at one input. -/
def recordsManyWrong : ChangeSpec := { name := "recordsMany", fn := fun _ => fun
  | [d1, d2] => { results := [.lit (.bool false)], args := [d1, d2] }
  | _ => none }
def RecordsManyWrongFalsely : Prop := recordsManyRow.holds Try.pinned (OpenSpec.ofChange recordsManyWrong)

/-- 'glissadelaw10.SupersBack': WHATEVER THE INPUT: true; the input reads as it did. -/
def supersBackSpec : ChangeSpec := { name := "supersBack", fn := fun _ => fun
  | [d1, d2] => { results := [.lit (.bool true)], args := [d1, d2] }
  | _ => none }
def supersBackRow : OpenClaim := { program := "ytfgnemddamebaaa", sum := "fef767b1b6ff6b21f028f9a92268feb0e474fb312ea55368820ca44af37b23da", func := "glissade/glissadelaw10.SupersBack", spec := "supersBack", inPlace := ["internal/abi.NoEscape", "internal/bytealg.MakeNoZero"], apart := false }
def SupersBackSaid : Prop := supersBackRow.holds Try.pinned (OpenSpec.ofChange supersBackSpec)

/-- ITS FALSE NEIGHBOUR: 'it returns false'. Refute it at one input. -/
def supersBackWrong : ChangeSpec := { name := "supersBack", fn := fun _ => fun
  | [d1, d2] => { results := [.lit (.bool false)], args := [d1, d2] }
  | _ => none }
def SupersBackWrongFalsely : Prop := supersBackRow.holds Try.pinned (OpenSpec.ofChange supersBackWrong)

/- THE SECOND FORM. 'bulk': how many values and letters a reading holds, each counted each time it is reached (what is shared counts as often as it is met; a slice's spare places count too). A statement '..UptoSaid' is the law's where the arguments, and the package variables that the reading takes, are together of bulk at most 1048576: NARROWER than '..Said'. Prove '..Said' where nothing that the law and all that it calls make is longer than what came in: it says more and counts as full. Else prove '..UptoSaid'. A law counts once. -/
mutual
def uptoBulk {H : Type} : DataW H → Nat
  | .lit (.string bytes) => bytes.length + 1
  | .lit _ => 1
  | .nil => 1
  | .ptr d => uptoBulk d + 1
  | .slice elems spare => uptoBulkAll elems + uptoBulkAll spare + 1
  | .agg parts => uptoBulkAll parts + 1
  | .iface _ d => uptoBulk d + 1
  | .map entries => uptoBulkEntries entries + 1
  | .held _ => 1
def uptoBulkAll {H : Type} : List (DataW H) → Nat
  | [] => 0
  | d :: r => uptoBulk d + uptoBulkAll r
def uptoBulkEntries {H : Type} : List (Lit × DataW H) → Nat
  | [] => 0
  | x :: r => uptoBulkEntry x + uptoBulkEntries r
def uptoBulkEntry {H : Type} : Lit × DataW H → Nat
  | (.string bytes, d) => bytes.length + uptoBulk d + 1
  | (_, d) => uptoBulk d + 1
 end
def uptoSmall : (H : Type) → List (DataW H) → Bool := fun _ ds => decide (uptoBulkAll ds ≤ 1048576)
def OpenSpec.upto (s : _root_.Go.ChangeSpec) : _root_.Go.OpenSpec := { _root_.Go.OpenSpec.ofChange s with cond := some uptoSmall }

/-- 'glissadelaw08.RecordsEncode', WHERE WHAT IT READS IS OF BULK AT MOST 1048576: true; the input reads as it did. -/
def recordsEncodeUptoRow : OpenClaim := { program := "ytfgnemddamebaaa", sum := "fef767b1b6ff6b21f028f9a92268feb0e474fb312ea55368820ca44af37b23da", func := "glissade/glissadelaw08.RecordsEncode", spec := "recordsEncode", inPlace := ["internal/abi.NoEscape", "internal/bytealg.MakeNoZero"], apart := false, narrowed := true }
def RecordsEncodeUptoSaid : Prop := recordsEncodeUptoRow.holds Try.pinned (OpenSpec.upto recordsEncodeSpec)

/-- 'glissadelaw08.RecordsDecode', WHERE WHAT IT READS IS OF BULK AT MOST 1048576: true; the input reads as it did. -/
def recordsDecodeUptoRow : OpenClaim := { program := "ytfgnemddamebaaa", sum := "fef767b1b6ff6b21f028f9a92268feb0e474fb312ea55368820ca44af37b23da", func := "glissade/glissadelaw08.RecordsDecode", spec := "recordsDecode", inPlace := ["internal/abi.NoEscape", "internal/bytealg.MakeNoZero"], apart := false, narrowed := true }
def RecordsDecodeUptoSaid : Prop := recordsDecodeUptoRow.holds Try.pinned (OpenSpec.upto recordsDecodeSpec)

/-- 'glissadelaw08.RecordsMask', WHERE WHAT IT READS IS OF BULK AT MOST 1048576: true; the input reads as it did. -/
def recordsMaskUptoRow : OpenClaim := { program := "ytfgnemddamebaaa", sum := "fef767b1b6ff6b21f028f9a92268feb0e474fb312ea55368820ca44af37b23da", func := "glissade/glissadelaw08.RecordsMask", spec := "recordsMask", inPlace := ["internal/abi.NoEscape", "internal/bytealg.MakeNoZero"], apart := false, narrowed := true }
def RecordsMaskUptoSaid : Prop := recordsMaskUptoRow.holds Try.pinned (OpenSpec.upto recordsMaskSpec)

/-- 'glissadelaw08.RecordsBack', WHERE WHAT IT READS IS OF BULK AT MOST 1048576: true; the input reads as it did. -/
def recordsBackUptoRow : OpenClaim := { program := "ytfgnemddamebaaa", sum := "fef767b1b6ff6b21f028f9a92268feb0e474fb312ea55368820ca44af37b23da", func := "glissade/glissadelaw08.RecordsBack", spec := "recordsBack", inPlace := ["internal/abi.NoEscape", "internal/bytealg.MakeNoZero"], apart := false, narrowed := true }
def RecordsBackUptoSaid : Prop := recordsBackUptoRow.holds Try.pinned (OpenSpec.upto recordsBackSpec)

/-- 'glissadelaw08.RecordsNone', WHERE WHAT IT READS IS OF BULK AT MOST 1048576: true; the input reads as it did. -/
def recordsNoneUptoRow : OpenClaim := { program := "ytfgnemddamebaaa", sum := "fef767b1b6ff6b21f028f9a92268feb0e474fb312ea55368820ca44af37b23da", func := "glissade/glissadelaw08.RecordsNone", spec := "recordsNone", inPlace := ["internal/abi.NoEscape", "internal/bytealg.MakeNoZero"], apart := false, narrowed := true }
def RecordsNoneUptoSaid : Prop := recordsNoneUptoRow.holds Try.pinned (OpenSpec.upto recordsNoneSpec)

/-- 'glissadelaw08.RecordsFields', WHERE WHAT IT READS IS OF BULK AT MOST 1048576: true; the input reads as it did. -/
def recordsFieldsUptoRow : OpenClaim := { program := "ytfgnemddamebaaa", sum := "fef767b1b6ff6b21f028f9a92268feb0e474fb312ea55368820ca44af37b23da", func := "glissade/glissadelaw08.RecordsFields", spec := "recordsFields", inPlace := ["internal/abi.NoEscape", "internal/bytealg.MakeNoZero"], apart := false, narrowed := true }
def RecordsFieldsUptoSaid : Prop := recordsFieldsUptoRow.holds Try.pinned (OpenSpec.upto recordsFieldsSpec)

/-- 'glissadelaw08.RecordsMany', WHERE WHAT IT READS IS OF BULK AT MOST 1048576: true; the input reads as it did. -/
def recordsManyUptoRow : OpenClaim := { program := "ytfgnemddamebaaa", sum := "fef767b1b6ff6b21f028f9a92268feb0e474fb312ea55368820ca44af37b23da", func := "glissade/glissadelaw08.RecordsMany", spec := "recordsMany", inPlace := ["internal/abi.NoEscape", "internal/bytealg.MakeNoZero"], apart := false, narrowed := true }
def RecordsManyUptoSaid : Prop := recordsManyUptoRow.holds Try.pinned (OpenSpec.upto recordsManySpec)

/-- 'glissadelaw10.SupersBack', WHERE WHAT IT READS IS OF BULK AT MOST 1048576: true; the input reads as it did. -/
def supersBackUptoRow : OpenClaim := { program := "ytfgnemddamebaaa", sum := "fef767b1b6ff6b21f028f9a92268feb0e474fb312ea55368820ca44af37b23da", func := "glissade/glissadelaw10.SupersBack", spec := "supersBack", inPlace := ["internal/abi.NoEscape", "internal/bytealg.MakeNoZero"], apart := false, narrowed := true }
def SupersBackUptoSaid : Prop := supersBackUptoRow.holds Try.pinned (OpenSpec.upto supersBackSpec)

end Rows
end Go.Proofs.Ytfgnemddamebaaa
