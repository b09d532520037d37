/-
  No cell of these rows narrows 'for every input' (looked for: loops, veiled, ifaces, maps, wideKeys, modest, calm, conditions, laid).
  DERIVED. THE GIVEN ROWS OF THIS SEAT. 12 by the template 'for every input the law returns true; each argument reads behind the call as it read before'; 0 by the template 'total and deterministic' (their statements: YtmljampbajjmlaaTotals.lean).
  GIVEN WITH THE SEED: the statements are not yours to turn. If you find one false, say at which input.
  Laid BY PROGRAM, IN A SANDBOX (cutbox-rows.mjs): the forced cells as the released guide's own fill.sh prints them over the translation a898d932b71ff488… (all of the seat's roots in one cut). By AI agents, Wed Nov 11 2026. No macro, syntax, notation, axiom, sorry.
-/
import Derived.Test.YtmljampbajjmlaaChecked
import GoSem.Claim
import GoSem.ClaimJoined
import GoSem.ClaimMapViews
import Derived.JoinedTies
import Derived.KernelRfl
namespace Go.Proofs.Ytmljampbajjmlaa
/- THE CELL 'sum', in the pinned program and in every row, IS THE sha256 OF THE DUMP (.gsa) THAT YtmljampbajjmlaaProg.lean LOADS. Nothing in Lean hashes anything: it is a label: what it is worth is what the hold of that sum in a sandbox is worth. -/
noncomputable def Try.pinned : Pinned := { name := "ytmljampbajjmlaa", sum := "a898d932b71ff4884602929d5656bea7ebeb9ddd0b66e43d5e96bd3425b1cb0a", checked := Try.checked }
namespace Rows
def none {H : Type} : Left H := { results := [], args := [] }

/-- 'glissadelaw01.WordsPuts': WHATEVER THE INPUT: true; the input reads as it did. -/
def wordsPutsSpec : ChangeSpec := { name := "wordsPuts", fn := fun _ => fun
  | [d1, d2, d3] => { results := [.lit (.bool true)], args := [d1, d2, d3] }
  | _ => none }
def wordsPutsRow : OpenClaim := { program := "ytmljampbajjmlaa", sum := "a898d932b71ff4884602929d5656bea7ebeb9ddd0b66e43d5e96bd3425b1cb0a", func := "glissade/glissadelaw01.WordsPuts", spec := "wordsPuts", apart := false }
def WordsPutsSaid : Prop := wordsPutsRow.holds Try.pinned (OpenSpec.ofChange wordsPutsSpec)

/-- ITS FALSE NEIGHBOUR: 'it returns false'. Refute it at one input. -/
def wordsPutsWrong : ChangeSpec := { name := "wordsPuts", fn := fun _ => fun
  | [d1, d2, d3] => { results := [.lit (.bool false)], args := [d1, d2, d3] }
  | _ => none }
def WordsPutsWrongFalsely : Prop := wordsPutsRow.holds Try.pinned (OpenSpec.ofChange wordsPutsWrong)

/-- 'glissadelaw01.WordsBack': WHATEVER THE INPUT: true; the input reads as it did. -/
def wordsBackSpec : ChangeSpec := { name := "wordsBack", fn := fun _ => fun
  | [d1, d2, d3] => { results := [.lit (.bool true)], args := [d1, d2, d3] }
  | _ => none }
def wordsBackRow : OpenClaim := { program := "ytmljampbajjmlaa", sum := "a898d932b71ff4884602929d5656bea7ebeb9ddd0b66e43d5e96bd3425b1cb0a", func := "glissade/glissadelaw01.WordsBack", spec := "wordsBack", apart := false }
def WordsBackSaid : Prop := wordsBackRow.holds Try.pinned (OpenSpec.ofChange wordsBackSpec)

/-- ITS FALSE NEIGHBOUR: 'it returns false'. Refute it at one input. -/
def wordsBackWrong : ChangeSpec := { name := "wordsBack", fn := fun _ => fun
  | [d1, d2, d3] => { results := [.lit (.bool false)], args := [d1, d2, d3] }
  | _ => none }
def WordsBackWrongFalsely : Prop := wordsBackRow.holds Try.pinned (OpenSpec.ofChange wordsBackWrong)

/-- 'glissadelaw01.WordsHalves': WHATEVER THE INPUT: true; the input reads as it did. -/
def wordsHalvesSpec : ChangeSpec := { name := "wordsHalves", fn := fun _ => fun
  | [d1, d2, d3] => { results := [.lit (.bool true)], args := [d1, d2, d3] }
  | _ => none }
def wordsHalvesRow : OpenClaim := { program := "ytmljampbajjmlaa", sum := "a898d932b71ff4884602929d5656bea7ebeb9ddd0b66e43d5e96bd3425b1cb0a", func := "glissade/glissadelaw01.WordsHalves", spec := "wordsHalves", apart := false }
def WordsHalvesSaid : Prop := wordsHalvesRow.holds Try.pinned (OpenSpec.ofChange wordsHalvesSpec)

/-- ITS FALSE NEIGHBOUR: 'it returns false'. Refute it at one input. -/
def wordsHalvesWrong : ChangeSpec := { name := "wordsHalves", fn := fun _ => fun
  | [d1, d2, d3] => { results := [.lit (.bool false)], args := [d1, d2, d3] }
  | _ => none }
def WordsHalvesWrongFalsely : Prop := wordsHalvesRow.holds Try.pinned (OpenSpec.ofChange wordsHalvesWrong)

/-- 'glissadelaw01.WordsStays': WHATEVER THE INPUT: true; the input reads as it did. -/
def wordsStaysSpec : ChangeSpec := { name := "wordsStays", fn := fun _ => fun
  | [d1, d2] => { results := [.lit (.bool true)], args := [d1, d2] }
  | _ => none }
def wordsStaysRow : OpenClaim := { program := "ytmljampbajjmlaa", sum := "a898d932b71ff4884602929d5656bea7ebeb9ddd0b66e43d5e96bd3425b1cb0a", func := "glissade/glissadelaw01.WordsStays", spec := "wordsStays", apart := false }
def WordsStaysSaid : Prop := wordsStaysRow.holds Try.pinned (OpenSpec.ofChange wordsStaysSpec)

/-- ITS FALSE NEIGHBOUR: 'it returns false'. Refute it at one input. -/
def wordsStaysWrong : ChangeSpec := { name := "wordsStays", fn := fun _ => fun
  | [d1, d2] => { results := [.lit (.bool false)], args := [d1, d2] }
  | _ => none }
def WordsStaysWrongFalsely : Prop := wordsStaysRow.holds Try.pinned (OpenSpec.ofChange wordsStaysWrong)

/-- 'glissadelaw01.WordsApart': WHATEVER THE INPUT: true; the input reads as it did. -/
def wordsApartSpec : ChangeSpec := { name := "wordsApart", fn := fun _ => fun
  | [d1, d2, d3] => { results := [.lit (.bool true)], args := [d1, d2, d3] }
  | _ => none }
def wordsApartRow : OpenClaim := { program := "ytmljampbajjmlaa", sum := "a898d932b71ff4884602929d5656bea7ebeb9ddd0b66e43d5e96bd3425b1cb0a", func := "glissade/glissadelaw01.WordsApart", spec := "wordsApart", apart := false }
def WordsApartSaid : Prop := wordsApartRow.holds Try.pinned (OpenSpec.ofChange wordsApartSpec)

/-- ITS FALSE NEIGHBOUR: 'it returns false'. Refute it at one input. -/
def wordsApartWrong : ChangeSpec := { name := "wordsApart", fn := fun _ => fun
  | [d1, d2, d3] => { results := [.lit (.bool false)], args := [d1, d2, d3] }
  | _ => none }
def WordsApartWrongFalsely : Prop := wordsApartRow.holds Try.pinned (OpenSpec.ofChange wordsApartWrong)

/-- 'glissadelaw01.WordsInts': WHATEVER THE INPUT: true; the input reads as it did. -/
def wordsIntsSpec : ChangeSpec := { name := "wordsInts", fn := fun _ => fun
  | [d1, d2, d3] => { results := [.lit (.bool true)], args := [d1, d2, d3] }
  | _ => none }
def wordsIntsRow : OpenClaim := { program := "ytmljampbajjmlaa", sum := "a898d932b71ff4884602929d5656bea7ebeb9ddd0b66e43d5e96bd3425b1cb0a", func := "glissade/glissadelaw01.WordsInts", spec := "wordsInts", apart := false }
def WordsIntsSaid : Prop := wordsIntsRow.holds Try.pinned (OpenSpec.ofChange wordsIntsSpec)

/-- ITS FALSE NEIGHBOUR: 'it returns false'. Refute it at one input. -/
def wordsIntsWrong : ChangeSpec := { name := "wordsInts", fn := fun _ => fun
  | [d1, d2, d3] => { results := [.lit (.bool false)], args := [d1, d2, d3] }
  | _ => none }
def WordsIntsWrongFalsely : Prop := wordsIntsRow.holds Try.pinned (OpenSpec.ofChange wordsIntsWrong)

/-- 'glissadelaw01.WordsGets': WHATEVER THE INPUT: true; the input reads as it did. -/
def wordsGetsSpec : ChangeSpec := { name := "wordsGets", fn := fun _ => fun
  | [d1, d2] => { results := [.lit (.bool true)], args := [d1, d2] }
  | _ => none }
def wordsGetsRow : OpenClaim := { program := "ytmljampbajjmlaa", sum := "a898d932b71ff4884602929d5656bea7ebeb9ddd0b66e43d5e96bd3425b1cb0a", func := "glissade/glissadelaw01.WordsGets", spec := "wordsGets", apart := false }
def WordsGetsSaid : Prop := wordsGetsRow.holds Try.pinned (OpenSpec.ofChange wordsGetsSpec)

/-- ITS FALSE NEIGHBOUR: 'it returns false'. Refute it at one input. -/
def wordsGetsWrong : ChangeSpec := { name := "wordsGets", fn := fun _ => fun
  | [d1, d2] => { results := [.lit (.bool false)], args := [d1, d2] }
  | _ => none }
def WordsGetsWrongFalsely : Prop := wordsGetsRow.holds Try.pinned (OpenSpec.ofChange wordsGetsWrong)

/-- 'glissadelaw05.GeometryOf': WHATEVER THE INPUT: true; the input reads as it did. -/
def geometryOfSpec : ChangeSpec := { name := "geometryOf", fn := fun _ => fun
  | [d1, d2, d3] => { results := [.lit (.bool true)], args := [d1, d2, d3] }
  | _ => none }
def geometryOfRow : OpenClaim := { program := "ytmljampbajjmlaa", sum := "a898d932b71ff4884602929d5656bea7ebeb9ddd0b66e43d5e96bd3425b1cb0a", func := "glissade/glissadelaw05.GeometryOf", spec := "geometryOf", apart := false }
def GeometryOfSaid : Prop := geometryOfRow.holds Try.pinned (OpenSpec.ofChange geometryOfSpec)

/-- ITS FALSE NEIGHBOUR: 'it returns false'. Refute it at one input. -/
def geometryOfWrong : ChangeSpec := { name := "geometryOf", fn := fun _ => fun
  | [d1, d2, d3] => { results := [.lit (.bool false)], args := [d1, d2, d3] }
  | _ => none }
def GeometryOfWrongFalsely : Prop := geometryOfRow.holds Try.pinned (OpenSpec.ofChange geometryOfWrong)

/-- 'glissadelaw05.GeometryAsks': WHATEVER THE INPUT: true; the input reads as it did. -/
def geometryAsksSpec : ChangeSpec := { name := "geometryAsks", fn := fun _ => fun
  | [d1, d2, d3] => { results := [.lit (.bool true)], args := [d1, d2, d3] }
  | _ => none }
def geometryAsksRow : OpenClaim := { program := "ytmljampbajjmlaa", sum := "a898d932b71ff4884602929d5656bea7ebeb9ddd0b66e43d5e96bd3425b1cb0a", func := "glissade/glissadelaw05.GeometryAsks", spec := "geometryAsks", apart := false }
def GeometryAsksSaid : Prop := geometryAsksRow.holds Try.pinned (OpenSpec.ofChange geometryAsksSpec)

/-- ITS FALSE NEIGHBOUR: 'it returns false'. Refute it at one input. -/
def geometryAsksWrong : ChangeSpec := { name := "geometryAsks", fn := fun _ => fun
  | [d1, d2, d3] => { results := [.lit (.bool false)], args := [d1, d2, d3] }
  | _ => none }
def GeometryAsksWrongFalsely : Prop := geometryAsksRow.holds Try.pinned (OpenSpec.ofChange geometryAsksWrong)

/-- 'glissadelaw05.GeometryParts': WHATEVER THE INPUT: true; the input reads as it did. -/
def geometryPartsSpec : ChangeSpec := { name := "geometryParts", fn := fun _ => fun
  | [d1, d2, d3] => { results := [.lit (.bool true)], args := [d1, d2, d3] }
  | _ => none }
def geometryPartsRow : OpenClaim := { program := "ytmljampbajjmlaa", sum := "a898d932b71ff4884602929d5656bea7ebeb9ddd0b66e43d5e96bd3425b1cb0a", func := "glissade/glissadelaw05.GeometryParts", spec := "geometryParts", apart := false }
def GeometryPartsSaid : Prop := geometryPartsRow.holds Try.pinned (OpenSpec.ofChange geometryPartsSpec)

/-- ITS FALSE NEIGHBOUR: 'it returns false'. Refute it at one input. -/
def geometryPartsWrong : ChangeSpec := { name := "geometryParts", fn := fun _ => fun
  | [d1, d2, d3] => { results := [.lit (.bool false)], args := [d1, d2, d3] }
  | _ => none }
def GeometryPartsWrongFalsely : Prop := geometryPartsRow.holds Try.pinned (OpenSpec.ofChange geometryPartsWrong)

/-- 'glissadelaw05.GeometryInodes': WHATEVER THE INPUT: true; the input reads as it did. -/
def geometryInodesSpec : ChangeSpec := { name := "geometryInodes", fn := fun _ => fun
  | [d1, d2] => { results := [.lit (.bool true)], args := [d1, d2] }
  | _ => none }
def geometryInodesRow : OpenClaim := { program := "ytmljampbajjmlaa", sum := "a898d932b71ff4884602929d5656bea7ebeb9ddd0b66e43d5e96bd3425b1cb0a", func := "glissade/glissadelaw05.GeometryInodes", spec := "geometryInodes", apart := false }
def GeometryInodesSaid : Prop := geometryInodesRow.holds Try.pinned (OpenSpec.ofChange geometryInodesSpec)

/-- ITS FALSE NEIGHBOUR: 'it returns false'. Refute it at one input. -/
def geometryInodesWrong : ChangeSpec := { name := "geometryInodes", fn := fun _ => fun
  | [d1, d2] => { results := [.lit (.bool false)], args := [d1, d2] }
  | _ => none }
def GeometryInodesWrongFalsely : Prop := geometryInodesRow.holds Try.pinned (OpenSpec.ofChange geometryInodesWrong)

/-- 'glissadelaw05.GeometryOdd': WHATEVER THE INPUT: true; the input reads as it did. -/
def geometryOddSpec : ChangeSpec := { name := "geometryOdd", fn := fun _ => fun
  | [d1, d2, d3] => { results := [.lit (.bool true)], args := [d1, d2, d3] }
  | _ => none }
def geometryOddRow : OpenClaim := { program := "ytmljampbajjmlaa", sum := "a898d932b71ff4884602929d5656bea7ebeb9ddd0b66e43d5e96bd3425b1cb0a", func := "glissade/glissadelaw05.GeometryOdd", spec := "geometryOdd", apart := false }
def GeometryOddSaid : Prop := geometryOddRow.holds Try.pinned (OpenSpec.ofChange geometryOddSpec)

/-- ITS FALSE NEIGHBOUR: 'it returns false'. Refute it at one input. -/
def geometryOddWrong : ChangeSpec := { name := "geometryOdd", fn := fun _ => fun
  | [d1, d2, d3] => { results := [.lit (.bool false)], args := [d1, d2, d3] }
  | _ => none }
def GeometryOddWrongFalsely : Prop := geometryOddRow.holds Try.pinned (OpenSpec.ofChange geometryOddWrong)

/- THE SECOND FORM. 'bulk': how many values and letters a reading holds, each counted each time it is reached (what is shared counts as often as it is met; a slice's spare places count too). A statement '..UptoSaid' is the law's where the arguments, and the package variables that the reading takes, are together of bulk at most 1048576: NARROWER than '..Said'. Prove '..Said' where nothing that the law and all that it calls make is longer than what came in: it says more and counts as full. Else prove '..UptoSaid'. A law counts once. -/
mutual
def uptoBulk {H : Type} : DataW H → Nat
  | .lit (.string bytes) => bytes.length + 1
  | .lit _ => 1
  | .nil => 1
  | .ptr d => uptoBulk d + 1
  | .slice elems spare => uptoBulkAll elems + uptoBulkAll spare + 1
  | .agg parts => uptoBulkAll parts + 1
  | .iface _ d => uptoBulk d + 1
  | .map entries => uptoBulkEntries entries + 1
  | .held _ => 1
def uptoBulkAll {H : Type} : List (DataW H) → Nat
  | [] => 0
  | d :: r => uptoBulk d + uptoBulkAll r
def uptoBulkEntries {H : Type} : List (Lit × DataW H) → Nat
  | [] => 0
  | x :: r => uptoBulkEntry x + uptoBulkEntries r
def uptoBulkEntry {H : Type} : Lit × DataW H → Nat
  | (.string bytes, d) => bytes.length + uptoBulk d + 1
  | (_, d) => uptoBulk d + 1
 end
def uptoSmall : (H : Type) → List (DataW H) → Bool := fun _ ds => decide (uptoBulkAll ds ≤ 1048576)
def OpenSpec.upto (s : _root_.Go.ChangeSpec) : _root_.Go.OpenSpec := { _root_.Go.OpenSpec.ofChange s with cond := some uptoSmall }

/-- 'glissadelaw01.WordsPuts', WHERE WHAT IT READS IS OF BULK AT MOST 1048576: true; the input reads as it did. -/
def wordsPutsUptoRow : OpenClaim := { program := "ytmljampbajjmlaa", sum := "a898d932b71ff4884602929d5656bea7ebeb9ddd0b66e43d5e96bd3425b1cb0a", func := "glissade/glissadelaw01.WordsPuts", spec := "wordsPuts", apart := false, narrowed := true }
def WordsPutsUptoSaid : Prop := wordsPutsUptoRow.holds Try.pinned (OpenSpec.upto wordsPutsSpec)

/-- 'glissadelaw01.WordsBack', WHERE WHAT IT READS IS OF BULK AT MOST 1048576: true; the input reads as it did. -/
def wordsBackUptoRow : OpenClaim := { program := "ytmljampbajjmlaa", sum := "a898d932b71ff4884602929d5656bea7ebeb9ddd0b66e43d5e96bd3425b1cb0a", func := "glissade/glissadelaw01.WordsBack", spec := "wordsBack", apart := false, narrowed := true }
def WordsBackUptoSaid : Prop := wordsBackUptoRow.holds Try.pinned (OpenSpec.upto wordsBackSpec)

/-- 'glissadelaw01.WordsHalves', WHERE WHAT IT READS IS OF BULK AT MOST 1048576: true; the input reads as it did. -/
def wordsHalvesUptoRow : OpenClaim := { program := "ytmljampbajjmlaa", sum := "a898d932b71ff4884602929d5656bea7ebeb9ddd0b66e43d5e96bd3425b1cb0a", func := "glissade/glissadelaw01.WordsHalves", spec := "wordsHalves", apart := false, narrowed := true }
def WordsHalvesUptoSaid : Prop := wordsHalvesUptoRow.holds Try.pinned (OpenSpec.upto wordsHalvesSpec)

/-- 'glissadelaw01.WordsStays', WHERE WHAT IT READS IS OF BULK AT MOST 1048576: true; the input reads as it did. -/
def wordsStaysUptoRow : OpenClaim := { program := "ytmljampbajjmlaa", sum := "a898d932b71ff4884602929d5656bea7ebeb9ddd0b66e43d5e96bd3425b1cb0a", func := "glissade/glissadelaw01.WordsStays", spec := "wordsStays", apart := false, narrowed := true }
def WordsStaysUptoSaid : Prop := wordsStaysUptoRow.holds Try.pinned (OpenSpec.upto wordsStaysSpec)

/-- 'glissadelaw01.WordsApart', WHERE WHAT IT READS IS OF BULK AT MOST 1048576: true; the input reads as it did. -/
def wordsApartUptoRow : OpenClaim := { program := "ytmljampbajjmlaa", sum := "a898d932b71ff4884602929d5656bea7ebeb9ddd0b66e43d5e96bd3425b1cb0a", func := "glissade/glissadelaw01.WordsApart", spec := "wordsApart", apart := false, narrowed := true }
def WordsApartUptoSaid : Prop := wordsApartUptoRow.holds Try.pinned (OpenSpec.upto wordsApartSpec)

/-- 'glissadelaw01.WordsInts', WHERE WHAT IT READS IS OF BULK AT MOST 1048576: true; the input reads as it did. -/
def wordsIntsUptoRow : OpenClaim := { program := "ytmljampbajjmlaa", sum := "a898d932b71ff4884602929d5656bea7ebeb9ddd0b66e43d5e96bd3425b1cb0a", func := "glissade/glissadelaw01.WordsInts", spec := "wordsInts", apart := false, narrowed := true }
def WordsIntsUptoSaid : Prop := wordsIntsUptoRow.holds Try.pinned (OpenSpec.upto wordsIntsSpec)

/-- 'glissadelaw01.WordsGets', WHERE WHAT IT READS IS OF BULK AT MOST 1048576: true; the input reads as it did. -/
def wordsGetsUptoRow : OpenClaim := { program := "ytmljampbajjmlaa", sum := "a898d932b71ff4884602929d5656bea7ebeb9ddd0b66e43d5e96bd3425b1cb0a", func := "glissade/glissadelaw01.WordsGets", spec := "wordsGets", apart := false, narrowed := true }
def WordsGetsUptoSaid : Prop := wordsGetsUptoRow.holds Try.pinned (OpenSpec.upto wordsGetsSpec)

/-- 'glissadelaw05.GeometryOf', WHERE WHAT IT READS IS OF BULK AT MOST 1048576: true; the input reads as it did. -/
def geometryOfUptoRow : OpenClaim := { program := "ytmljampbajjmlaa", sum := "a898d932b71ff4884602929d5656bea7ebeb9ddd0b66e43d5e96bd3425b1cb0a", func := "glissade/glissadelaw05.GeometryOf", spec := "geometryOf", apart := false, narrowed := true }
def GeometryOfUptoSaid : Prop := geometryOfUptoRow.holds Try.pinned (OpenSpec.upto geometryOfSpec)

/-- 'glissadelaw05.GeometryAsks', WHERE WHAT IT READS IS OF BULK AT MOST 1048576: true; the input reads as it did. -/
def geometryAsksUptoRow : OpenClaim := { program := "ytmljampbajjmlaa", sum := "a898d932b71ff4884602929d5656bea7ebeb9ddd0b66e43d5e96bd3425b1cb0a", func := "glissade/glissadelaw05.GeometryAsks", spec := "geometryAsks", apart := false, narrowed := true }
def GeometryAsksUptoSaid : Prop := geometryAsksUptoRow.holds Try.pinned (OpenSpec.upto geometryAsksSpec)

/-- 'glissadelaw05.GeometryParts', WHERE WHAT IT READS IS OF BULK AT MOST 1048576: true; the input reads as it did. -/
def geometryPartsUptoRow : OpenClaim := { program := "ytmljampbajjmlaa", sum := "a898d932b71ff4884602929d5656bea7ebeb9ddd0b66e43d5e96bd3425b1cb0a", func := "glissade/glissadelaw05.GeometryParts", spec := "geometryParts", apart := false, narrowed := true }
def GeometryPartsUptoSaid : Prop := geometryPartsUptoRow.holds Try.pinned (OpenSpec.upto geometryPartsSpec)

/-- 'glissadelaw05.GeometryInodes', WHERE WHAT IT READS IS OF BULK AT MOST 1048576: true; the input reads as it did. -/
def geometryInodesUptoRow : OpenClaim := { program := "ytmljampbajjmlaa", sum := "a898d932b71ff4884602929d5656bea7ebeb9ddd0b66e43d5e96bd3425b1cb0a", func := "glissade/glissadelaw05.GeometryInodes", spec := "geometryInodes", apart := false, narrowed := true }
def GeometryInodesUptoSaid : Prop := geometryInodesUptoRow.holds Try.pinned (OpenSpec.upto geometryInodesSpec)

/-- 'glissadelaw05.GeometryOdd', WHERE WHAT IT READS IS OF BULK AT MOST 1048576: true; the input reads as it did. -/
def geometryOddUptoRow : OpenClaim := { program := "ytmljampbajjmlaa", sum := "a898d932b71ff4884602929d5656bea7ebeb9ddd0b66e43d5e96bd3425b1cb0a", func := "glissade/glissadelaw05.GeometryOdd", spec := "geometryOdd", apart := false, narrowed := true }
def GeometryOddUptoSaid : Prop := geometryOddUptoRow.holds Try.pinned (OpenSpec.upto geometryOddSpec)

end Rows
end Go.Proofs.Ytmljampbajjmlaa
