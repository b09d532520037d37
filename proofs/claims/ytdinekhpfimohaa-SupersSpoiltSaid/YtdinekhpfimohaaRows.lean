/-
  No cell of these rows narrows 'for every input' (looked for: loops, veiled, ifaces, maps, wideKeys, modest, calm, conditions, laid).
  DERIVED. THE GIVEN ROWS OF THIS SEAT. 12 by the template 'for every input the law returns true; each argument reads behind the call as it read before'; 0 by the template 'total and deterministic' (their statements: YtdinekhpfimohaaTotals.lean).
  GIVEN WITH THE SEED: the statements are not yours to turn. If you find one false, say at which input.
  Laid BY PROGRAM, IN A SANDBOX (cutbox-rows.mjs): the forced cells as the released guide's own fill.sh prints them over the translation eed792afe7eeb96c… (all of the seat's roots in one cut). By AI agents, Wed Nov 11 2026. No macro, syntax, notation, axiom, sorry.
-/
import Derived.Test.YtdinekhpfimohaaChecked
import GoSem.Claim
import GoSem.ClaimJoined
import GoSem.ClaimMapViews
import Derived.JoinedTies
import Derived.KernelRfl
namespace Go.Proofs.Ytdinekhpfimohaa
/- THE CELL 'sum', in the pinned program and in every row, IS THE sha256 OF THE DUMP (.gsa) THAT YtdinekhpfimohaaProg.lean LOADS. Nothing in Lean hashes anything: it is a label: what it is worth is what the hold of that sum in a sandbox is worth. -/
noncomputable def Try.pinned : Pinned := { name := "ytdinekhpfimohaa", sum := "eed792afe7eeb96c5a4b62d748da089517c37098c695cf501b15f03ae518b741", checked := Try.checked }
namespace Rows
def none {H : Type} : Left H := { results := [], args := [] }

/-- 'glissadelaw10.SupersEncode': WHATEVER THE INPUT: true; the input reads as it did. -/
def supersEncodeSpec : ChangeSpec := { name := "supersEncode", fn := fun _ => fun
  | [d] => { results := [.lit (.bool true)], args := [d] }
  | _ => none }
def supersEncodeRow : OpenClaim := { program := "ytdinekhpfimohaa", sum := "eed792afe7eeb96c5a4b62d748da089517c37098c695cf501b15f03ae518b741", func := "glissade/glissadelaw10.SupersEncode", spec := "supersEncode", inPlace := ["internal/abi.NoEscape", "internal/bytealg.MakeNoZero"], apart := false }
def SupersEncodeSaid : Prop := supersEncodeRow.holds Try.pinned (OpenSpec.ofChange supersEncodeSpec)

/-- ITS FALSE NEIGHBOUR: 'it returns false'. Refute it at one input. -/
def supersEncodeWrong : ChangeSpec := { name := "supersEncode", fn := fun _ => fun
  | [d] => { results := [.lit (.bool false)], args := [d] }
  | _ => none }
def SupersEncodeWrongFalsely : Prop := supersEncodeRow.holds Try.pinned (OpenSpec.ofChange supersEncodeWrong)

/-- 'glissadelaw10.SupersDecode': WHATEVER THE INPUT: true; the input reads as it did. -/
def supersDecodeSpec : ChangeSpec := { name := "supersDecode", fn := fun _ => fun
  | [d] => { results := [.lit (.bool true)], args := [d] }
  | _ => none }
def supersDecodeRow : OpenClaim := { program := "ytdinekhpfimohaa", sum := "eed792afe7eeb96c5a4b62d748da089517c37098c695cf501b15f03ae518b741", func := "glissade/glissadelaw10.SupersDecode", spec := "supersDecode", inPlace := ["internal/abi.NoEscape", "internal/bytealg.MakeNoZero"], apart := false }
def SupersDecodeSaid : Prop := supersDecodeRow.holds Try.pinned (OpenSpec.ofChange supersDecodeSpec)

/-- ITS FALSE NEIGHBOUR: 'it returns false'. Refute it at one input. -/
def supersDecodeWrong : ChangeSpec := { name := "supersDecode", fn := fun _ => fun
  | [d] => { results := [.lit (.bool false)], args := [d] }
  | _ => none }
def SupersDecodeWrongFalsely : Prop := supersDecodeRow.holds Try.pinned (OpenSpec.ofChange supersDecodeWrong)

/-- 'glissadelaw10.SupersFields': WHATEVER THE INPUT: true; the input reads as it did. -/
def supersFieldsSpec : ChangeSpec := { name := "supersFields", fn := fun _ => fun
  | [d1, d2] => { results := [.lit (.bool true)], args := [d1, d2] }
  | _ => none }
def supersFieldsRow : OpenClaim := { program := "ytdinekhpfimohaa", sum := "eed792afe7eeb96c5a4b62d748da089517c37098c695cf501b15f03ae518b741", func := "glissade/glissadelaw10.SupersFields", spec := "supersFields", inPlace := ["internal/abi.NoEscape", "internal/bytealg.MakeNoZero"], apart := false }
def SupersFieldsSaid : Prop := supersFieldsRow.holds Try.pinned (OpenSpec.ofChange supersFieldsSpec)

/-- ITS FALSE NEIGHBOUR: 'it returns false'. Refute it at one input. -/
def supersFieldsWrong : ChangeSpec := { name := "supersFields", fn := fun _ => fun
  | [d1, d2] => { results := [.lit (.bool false)], args := [d1, d2] }
  | _ => none }
def SupersFieldsWrongFalsely : Prop := supersFieldsRow.holds Try.pinned (OpenSpec.ofChange supersFieldsWrong)

/-- 'glissadelaw10.SupersMay': WHATEVER THE INPUT: true; the input reads as it did. -/
def supersMaySpec : ChangeSpec := { name := "supersMay", fn := fun _ => fun
  | [d1, d2] => { results := [.lit (.bool true)], args := [d1, d2] }
  | _ => none }
def supersMayRow : OpenClaim := { program := "ytdinekhpfimohaa", sum := "eed792afe7eeb96c5a4b62d748da089517c37098c695cf501b15f03ae518b741", func := "glissade/glissadelaw10.SupersMay", spec := "supersMay", inPlace := ["internal/abi.NoEscape", "internal/bytealg.MakeNoZero"], apart := false }
def SupersMaySaid : Prop := supersMayRow.holds Try.pinned (OpenSpec.ofChange supersMaySpec)

/-- ITS FALSE NEIGHBOUR: 'it returns false'. Refute it at one input. -/
def supersMayWrong : ChangeSpec := { name := "supersMay", fn := fun _ => fun
  | [d1, d2] => { results := [.lit (.bool false)], args := [d1, d2] }
  | _ => none }
def SupersMayWrongFalsely : Prop := supersMayRow.holds Try.pinned (OpenSpec.ofChange supersMayWrong)

/-- 'glissadelaw10.SupersSlide': WHATEVER THE INPUT: true; the input reads as it did. -/
def supersSlideSpec : ChangeSpec := { name := "supersSlide", fn := fun _ => fun
  | [d1, d2] => { results := [.lit (.bool true)], args := [d1, d2] }
  | _ => none }
def supersSlideRow : OpenClaim := { program := "ytdinekhpfimohaa", sum := "eed792afe7eeb96c5a4b62d748da089517c37098c695cf501b15f03ae518b741", func := "glissade/glissadelaw10.SupersSlide", spec := "supersSlide", inPlace := ["internal/abi.NoEscape", "internal/bytealg.MakeNoZero"], apart := false }
def SupersSlideSaid : Prop := supersSlideRow.holds Try.pinned (OpenSpec.ofChange supersSlideSpec)

/-- ITS FALSE NEIGHBOUR: 'it returns false'. Refute it at one input. -/
def supersSlideWrong : ChangeSpec := { name := "supersSlide", fn := fun _ => fun
  | [d1, d2] => { results := [.lit (.bool false)], args := [d1, d2] }
  | _ => none }
def SupersSlideWrongFalsely : Prop := supersSlideRow.holds Try.pinned (OpenSpec.ofChange supersSlideWrong)

/-- 'glissadelaw10.SupersSpoilt': WHATEVER THE INPUT: true; the input reads as it did. -/
def supersSpoiltSpec : ChangeSpec := { name := "supersSpoilt", fn := fun _ => fun
  | [d1, d2, d3] => { results := [.lit (.bool true)], args := [d1, d2, d3] }
  | _ => none }
def supersSpoiltRow : OpenClaim := { program := "ytdinekhpfimohaa", sum := "eed792afe7eeb96c5a4b62d748da089517c37098c695cf501b15f03ae518b741", func := "glissade/glissadelaw10.SupersSpoilt", spec := "supersSpoilt", inPlace := ["internal/abi.NoEscape", "internal/bytealg.MakeNoZero"], apart := false }
def SupersSpoiltSaid : Prop := supersSpoiltRow.holds Try.pinned (OpenSpec.ofChange supersSpoiltSpec)

/-- ITS FALSE NEIGHBOUR: 'it returns false'. Refute it at one input. -/
def supersSpoiltWrong : ChangeSpec := { name := "supersSpoilt", fn := fun _ => fun
  | [d1, d2, d3] => { results := [.lit (.bool false)], args := [d1, d2, d3] }
  | _ => none }
def SupersSpoiltWrongFalsely : Prop := supersSpoiltRow.holds Try.pinned (OpenSpec.ofChange supersSpoiltWrong)

/-- 'glissadelaw11.InodesEncode': WHATEVER THE INPUT: true; the input reads as it did. -/
def inodesEncodeSpec : ChangeSpec := { name := "inodesEncode", fn := fun _ => fun
  | [d] => { results := [.lit (.bool true)], args := [d] }
  | _ => none }
def inodesEncodeRow : OpenClaim := { program := "ytdinekhpfimohaa", sum := "eed792afe7eeb96c5a4b62d748da089517c37098c695cf501b15f03ae518b741", func := "glissade/glissadelaw11.InodesEncode", spec := "inodesEncode", inPlace := ["internal/abi.NoEscape", "internal/bytealg.MakeNoZero"], apart := false }
def InodesEncodeSaid : Prop := inodesEncodeRow.holds Try.pinned (OpenSpec.ofChange inodesEncodeSpec)

/-- ITS FALSE NEIGHBOUR: 'it returns false'. Refute it at one input. -/
def inodesEncodeWrong : ChangeSpec := { name := "inodesEncode", fn := fun _ => fun
  | [d] => { results := [.lit (.bool false)], args := [d] }
  | _ => none }
def InodesEncodeWrongFalsely : Prop := inodesEncodeRow.holds Try.pinned (OpenSpec.ofChange inodesEncodeWrong)

/-- 'glissadelaw11.InodesDecode': WHATEVER THE INPUT: true; the input reads as it did. -/
def inodesDecodeSpec : ChangeSpec := { name := "inodesDecode", fn := fun _ => fun
  | [d] => { results := [.lit (.bool true)], args := [d] }
  | _ => none }
def inodesDecodeRow : OpenClaim := { program := "ytdinekhpfimohaa", sum := "eed792afe7eeb96c5a4b62d748da089517c37098c695cf501b15f03ae518b741", func := "glissade/glissadelaw11.InodesDecode", spec := "inodesDecode", inPlace := ["internal/abi.NoEscape", "internal/bytealg.MakeNoZero"], apart := false }
def InodesDecodeSaid : Prop := inodesDecodeRow.holds Try.pinned (OpenSpec.ofChange inodesDecodeSpec)

/-- ITS FALSE NEIGHBOUR: 'it returns false'. Refute it at one input. -/
def inodesDecodeWrong : ChangeSpec := { name := "inodesDecode", fn := fun _ => fun
  | [d] => { results := [.lit (.bool false)], args := [d] }
  | _ => none }
def InodesDecodeWrongFalsely : Prop := inodesDecodeRow.holds Try.pinned (OpenSpec.ofChange inodesDecodeWrong)

/-- 'glissadelaw11.InodesBack': WHATEVER THE INPUT: true; the input reads as it did. -/
def inodesBackSpec : ChangeSpec := { name := "inodesBack", fn := fun _ => fun
  | [d1, d2] => { results := [.lit (.bool true)], args := [d1, d2] }
  | _ => none }
def inodesBackRow : OpenClaim := { program := "ytdinekhpfimohaa", sum := "eed792afe7eeb96c5a4b62d748da089517c37098c695cf501b15f03ae518b741", func := "glissade/glissadelaw11.InodesBack", spec := "inodesBack", inPlace := ["internal/abi.NoEscape", "internal/bytealg.MakeNoZero"], apart := false }
def InodesBackSaid : Prop := inodesBackRow.holds Try.pinned (OpenSpec.ofChange inodesBackSpec)

/-- ITS FALSE NEIGHBOUR: 'it returns false'. Refute it at one input. -/
def inodesBackWrong : ChangeSpec := { name := "inodesBack", fn := fun _ => fun
  | [d1, d2] => { results := [.lit (.bool false)], args := [d1, d2] }
  | _ => none }
def InodesBackWrongFalsely : Prop := inodesBackRow.holds Try.pinned (OpenSpec.ofChange inodesBackWrong)

/-- 'glissadelaw11.InodesLess': WHATEVER THE INPUT: true; the input reads as it did. -/
def inodesLessSpec : ChangeSpec := { name := "inodesLess", fn := fun _ => fun
  | [d1, d2, d3] => { results := [.lit (.bool true)], args := [d1, d2, d3] }
  | _ => none }
def inodesLessRow : OpenClaim := { program := "ytdinekhpfimohaa", sum := "eed792afe7eeb96c5a4b62d748da089517c37098c695cf501b15f03ae518b741", func := "glissade/glissadelaw11.InodesLess", spec := "inodesLess", inPlace := ["internal/abi.NoEscape", "internal/bytealg.MakeNoZero"], apart := false }
def InodesLessSaid : Prop := inodesLessRow.holds Try.pinned (OpenSpec.ofChange inodesLessSpec)

/-- ITS FALSE NEIGHBOUR: 'it returns false'. Refute it at one input. -/
def inodesLessWrong : ChangeSpec := { name := "inodesLess", fn := fun _ => fun
  | [d1, d2, d3] => { results := [.lit (.bool false)], args := [d1, d2, d3] }
  | _ => none }
def InodesLessWrongFalsely : Prop := inodesLessRow.holds Try.pinned (OpenSpec.ofChange inodesLessWrong)

/-- 'glissadelaw11.InodesMore': WHATEVER THE INPUT: true; the input reads as it did. -/
def inodesMoreSpec : ChangeSpec := { name := "inodesMore", fn := fun _ => fun
  | [d1, d2] => { results := [.lit (.bool true)], args := [d1, d2] }
  | _ => none }
def inodesMoreRow : OpenClaim := { program := "ytdinekhpfimohaa", sum := "eed792afe7eeb96c5a4b62d748da089517c37098c695cf501b15f03ae518b741", func := "glissade/glissadelaw11.InodesMore", spec := "inodesMore", inPlace := ["internal/abi.NoEscape", "internal/bytealg.MakeNoZero"], apart := false }
def InodesMoreSaid : Prop := inodesMoreRow.holds Try.pinned (OpenSpec.ofChange inodesMoreSpec)

/-- ITS FALSE NEIGHBOUR: 'it returns false'. Refute it at one input. -/
def inodesMoreWrong : ChangeSpec := { name := "inodesMore", fn := fun _ => fun
  | [d1, d2] => { results := [.lit (.bool false)], args := [d1, d2] }
  | _ => none }
def InodesMoreWrongFalsely : Prop := inodesMoreRow.holds Try.pinned (OpenSpec.ofChange inodesMoreWrong)

/-- 'glissadelaw11.InodesFree': WHATEVER THE INPUT: true; the input reads as it did. -/
def inodesFreeSpec : ChangeSpec := { name := "inodesFree", fn := fun _ => fun
  | [d] => { results := [.lit (.bool true)], args := [d] }
  | _ => none }
def inodesFreeRow : OpenClaim := { program := "ytdinekhpfimohaa", sum := "eed792afe7eeb96c5a4b62d748da089517c37098c695cf501b15f03ae518b741", func := "glissade/glissadelaw11.InodesFree", spec := "inodesFree", inPlace := ["internal/abi.NoEscape", "internal/bytealg.MakeNoZero"], apart := false }
def InodesFreeSaid : Prop := inodesFreeRow.holds Try.pinned (OpenSpec.ofChange inodesFreeSpec)

/-- ITS FALSE NEIGHBOUR: 'it returns false'. Refute it at one input. -/
def inodesFreeWrong : ChangeSpec := { name := "inodesFree", fn := fun _ => fun
  | [d] => { results := [.lit (.bool false)], args := [d] }
  | _ => none }
def InodesFreeWrongFalsely : Prop := inodesFreeRow.holds Try.pinned (OpenSpec.ofChange inodesFreeWrong)

/- THE SECOND FORM. 'bulk': how many values and letters a reading holds, each counted each time it is reached (what is shared counts as often as it is met; a slice's spare places count too). A statement '..UptoSaid' is the law's where the arguments, and the package variables that the reading takes, are together of bulk at most 1048576: NARROWER than '..Said'. Prove '..Said' where nothing that the law and all that it calls make is longer than what came in: it says more and counts as full. Else prove '..UptoSaid'. A law counts once. -/
mutual
def uptoBulk {H : Type} : DataW H → Nat
  | .lit (.string bytes) => bytes.length + 1
  | .lit _ => 1
  | .nil => 1
  | .ptr d => uptoBulk d + 1
  | .slice elems spare => uptoBulkAll elems + uptoBulkAll spare + 1
  | .agg parts => uptoBulkAll parts + 1
  | .iface _ d => uptoBulk d + 1
  | .map entries => uptoBulkEntries entries + 1
  | .held _ => 1
def uptoBulkAll {H : Type} : List (DataW H) → Nat
  | [] => 0
  | d :: r => uptoBulk d + uptoBulkAll r
def uptoBulkEntries {H : Type} : List (Lit × DataW H) → Nat
  | [] => 0
  | x :: r => uptoBulkEntry x + uptoBulkEntries r
def uptoBulkEntry {H : Type} : Lit × DataW H → Nat
  | (.string bytes, d) => bytes.length + uptoBulk d + 1
  | (_, d) => uptoBulk d + 1
 end
def uptoSmall : (H : Type) → List (DataW H) → Bool := fun _ ds => decide (uptoBulkAll ds ≤ 1048576)
def OpenSpec.upto (s : _root_.Go.ChangeSpec) : _root_.Go.OpenSpec := { _root_.Go.OpenSpec.ofChange s with cond := some uptoSmall }

/-- 'glissadelaw10.SupersEncode', WHERE WHAT IT READS IS OF BULK AT MOST 1048576: true; the input reads as it did. -/
def supersEncodeUptoRow : OpenClaim := { program := "ytdinekhpfimohaa", sum := "eed792afe7eeb96c5a4b62d748da089517c37098c695cf501b15f03ae518b741", func := "glissade/glissadelaw10.SupersEncode", spec := "supersEncode", inPlace := ["internal/abi.NoEscape", "internal/bytealg.MakeNoZero"], apart := false, narrowed := true }
def SupersEncodeUptoSaid : Prop := supersEncodeUptoRow.holds Try.pinned (OpenSpec.upto supersEncodeSpec)

/-- 'glissadelaw10.SupersDecode', WHERE WHAT IT READS IS OF BULK AT MOST 1048576: true; the input reads as it did. -/
def supersDecodeUptoRow : OpenClaim := { program := "ytdinekhpfimohaa", sum := "eed792afe7eeb96c5a4b62d748da089517c37098c695cf501b15f03ae518b741", func := "glissade/glissadelaw10.SupersDecode", spec := "supersDecode", inPlace := ["internal/abi.NoEscape", "internal/bytealg.MakeNoZero"], apart := false, narrowed := true }
def SupersDecodeUptoSaid : Prop := supersDecodeUptoRow.holds Try.pinned (OpenSpec.upto supersDecodeSpec)

/-- 'glissadelaw10.SupersFields', WHERE WHAT IT READS IS OF BULK AT MOST 1048576: true; the input reads as it did. -/
def supersFieldsUptoRow : OpenClaim := { program := "ytdinekhpfimohaa", sum := "eed792afe7eeb96c5a4b62d748da089517c37098c695cf501b15f03ae518b741", func := "glissade/glissadelaw10.SupersFields", spec := "supersFields", inPlace := ["internal/abi.NoEscape", "internal/bytealg.MakeNoZero"], apart := false, narrowed := true }
def SupersFieldsUptoSaid : Prop := supersFieldsUptoRow.holds Try.pinned (OpenSpec.upto supersFieldsSpec)

/-- 'glissadelaw10.SupersMay', WHERE WHAT IT READS IS OF BULK AT MOST 1048576: true; the input reads as it did. -/
def supersMayUptoRow : OpenClaim := { program := "ytdinekhpfimohaa", sum := "eed792afe7eeb96c5a4b62d748da089517c37098c695cf501b15f03ae518b741", func := "glissade/glissadelaw10.SupersMay", spec := "supersMay", inPlace := ["internal/abi.NoEscape", "internal/bytealg.MakeNoZero"], apart := false, narrowed := true }
def SupersMayUptoSaid : Prop := supersMayUptoRow.holds Try.pinned (OpenSpec.upto supersMaySpec)

/-- 'glissadelaw10.SupersSlide', WHERE WHAT IT READS IS OF BULK AT MOST 1048576: true; the input reads as it did. -/
def supersSlideUptoRow : OpenClaim := { program := "ytdinekhpfimohaa", sum := "eed792afe7eeb96c5a4b62d748da089517c37098c695cf501b15f03ae518b741", func := "glissade/glissadelaw10.SupersSlide", spec := "supersSlide", inPlace := ["internal/abi.NoEscape", "internal/bytealg.MakeNoZero"], apart := false, narrowed := true }
def SupersSlideUptoSaid : Prop := supersSlideUptoRow.holds Try.pinned (OpenSpec.upto supersSlideSpec)

/-- 'glissadelaw10.SupersSpoilt', WHERE WHAT IT READS IS OF BULK AT MOST 1048576: true; the input reads as it did. -/
def supersSpoiltUptoRow : OpenClaim := { program := "ytdinekhpfimohaa", sum := "eed792afe7eeb96c5a4b62d748da089517c37098c695cf501b15f03ae518b741", func := "glissade/glissadelaw10.SupersSpoilt", spec := "supersSpoilt", inPlace := ["internal/abi.NoEscape", "internal/bytealg.MakeNoZero"], apart := false, narrowed := true }
def SupersSpoiltUptoSaid : Prop := supersSpoiltUptoRow.holds Try.pinned (OpenSpec.upto supersSpoiltSpec)

/-- 'glissadelaw11.InodesEncode', WHERE WHAT IT READS IS OF BULK AT MOST 1048576: true; the input reads as it did. -/
def inodesEncodeUptoRow : OpenClaim := { program := "ytdinekhpfimohaa", sum := "eed792afe7eeb96c5a4b62d748da089517c37098c695cf501b15f03ae518b741", func := "glissade/glissadelaw11.InodesEncode", spec := "inodesEncode", inPlace := ["internal/abi.NoEscape", "internal/bytealg.MakeNoZero"], apart := false, narrowed := true }
def InodesEncodeUptoSaid : Prop := inodesEncodeUptoRow.holds Try.pinned (OpenSpec.upto inodesEncodeSpec)

/-- 'glissadelaw11.InodesDecode', WHERE WHAT IT READS IS OF BULK AT MOST 1048576: true; the input reads as it did. -/
def inodesDecodeUptoRow : OpenClaim := { program := "ytdinekhpfimohaa", sum := "eed792afe7eeb96c5a4b62d748da089517c37098c695cf501b15f03ae518b741", func := "glissade/glissadelaw11.InodesDecode", spec := "inodesDecode", inPlace := ["internal/abi.NoEscape", "internal/bytealg.MakeNoZero"], apart := false, narrowed := true }
def InodesDecodeUptoSaid : Prop := inodesDecodeUptoRow.holds Try.pinned (OpenSpec.upto inodesDecodeSpec)

/-- 'glissadelaw11.InodesBack', WHERE WHAT IT READS IS OF BULK AT MOST 1048576: true; the input reads as it did. -/
def inodesBackUptoRow : OpenClaim := { program := "ytdinekhpfimohaa", sum := "eed792afe7eeb96c5a4b62d748da089517c37098c695cf501b15f03ae518b741", func := "glissade/glissadelaw11.InodesBack", spec := "inodesBack", inPlace := ["internal/abi.NoEscape", "internal/bytealg.MakeNoZero"], apart := false, narrowed := true }
def InodesBackUptoSaid : Prop := inodesBackUptoRow.holds Try.pinned (OpenSpec.upto inodesBackSpec)

/-- 'glissadelaw11.InodesLess', WHERE WHAT IT READS IS OF BULK AT MOST 1048576: true; the input reads as it did. -/
def inodesLessUptoRow : OpenClaim := { program := "ytdinekhpfimohaa", sum := "eed792afe7eeb96c5a4b62d748da089517c37098c695cf501b15f03ae518b741", func := "glissade/glissadelaw11.InodesLess", spec := "inodesLess", inPlace := ["internal/abi.NoEscape", "internal/bytealg.MakeNoZero"], apart := false, narrowed := true }
def InodesLessUptoSaid : Prop := inodesLessUptoRow.holds Try.pinned (OpenSpec.upto inodesLessSpec)

/-- 'glissadelaw11.InodesMore', WHERE WHAT IT READS IS OF BULK AT MOST 1048576: true; the input reads as it did. -/
def inodesMoreUptoRow : OpenClaim := { program := "ytdinekhpfimohaa", sum := "eed792afe7eeb96c5a4b62d748da089517c37098c695cf501b15f03ae518b741", func := "glissade/glissadelaw11.InodesMore", spec := "inodesMore", inPlace := ["internal/abi.NoEscape", "internal/bytealg.MakeNoZero"], apart := false, narrowed := true }
def InodesMoreUptoSaid : Prop := inodesMoreUptoRow.holds Try.pinned (OpenSpec.upto inodesMoreSpec)

/-- 'glissadelaw11.InodesFree', WHERE WHAT IT READS IS OF BULK AT MOST 1048576: true; the input reads as it did. -/
def inodesFreeUptoRow : OpenClaim := { program := "ytdinekhpfimohaa", sum := "eed792afe7eeb96c5a4b62d748da089517c37098c695cf501b15f03ae518b741", func := "glissade/glissadelaw11.InodesFree", spec := "inodesFree", inPlace := ["internal/abi.NoEscape", "internal/bytealg.MakeNoZero"], apart := false, narrowed := true }
def InodesFreeUptoSaid : Prop := inodesFreeUptoRow.holds Try.pinned (OpenSpec.upto inodesFreeSpec)

end Rows
end Go.Proofs.Ytdinekhpfimohaa
