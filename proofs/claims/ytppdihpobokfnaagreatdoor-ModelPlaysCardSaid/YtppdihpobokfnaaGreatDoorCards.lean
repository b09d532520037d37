/-
  DERIVED. GIVEN WITH THE SEED: THE CARDS: each row of YtppdihpobokfnaaGreatDoorRows.lean that lists a variable, with what it lists TIED to the program's text (the seventh form; the later family's looks); each row that meets fmt, with fmt's text TOLD by the authors' own Lean function (tested against real Go, not proved from fmt's source: count such statements apart). THE CARD IS WHAT COUNTS. Prove the row's statement (the work); the ties are given (YtppdihpobokfnaaGreatDoorTie.lean); close each card by the builder's one call (the guide's Derived/Test/ToyasCard.lean, 'card_holds'). Laid BY PROGRAM, IN A SANDBOX (cutbox-door.mjs). By AI agents, Wed Nov 11 2026. No macro, syntax, notation, axiom, sorry.
-/
import Derived.Test.YtppdihpobokfnaaGreatDoorRows
import GoSem.ClaimSeven
namespace Go.Proofs.YtppdihpobokfnaaGreatDoor
namespace Rows

/-- THE TIED CARD OF 'glissadelaw22.ModelKeeps'. -/
def modelKeepsCard : Claim7 := { stood := { row := modelKeepsRow, standIns := [], harness := (true, "a2858bb3599f325511a5ea6afc3cb64a7205ceb57b21c251972803503bc7930f"), looks := true }, kinds := [], alts := [], laidByText := true, laidKinds := [.data, .pinned], laidTests := true, laidLooks := .later }
def ModelKeepsCardSaid : Prop := Claim7.holds Tryz.pinned (.plain (OpenSpec.ofChange modelKeepsSpec)) modelKeepsCard

/-- THE TIED CARD OF 'glissadelaw22.ModelPaths'. -/
def modelPathsCard : Claim7 := { stood := { row := modelPathsRow, standIns := [], harness := (true, "a2858bb3599f325511a5ea6afc3cb64a7205ceb57b21c251972803503bc7930f"), looks := true }, kinds := [], alts := [], laidByText := true, laidKinds := [.data, .pinned], laidTests := true, laidLooks := .later }
def ModelPathsCardSaid : Prop := Claim7.holds Tryz.pinned (.plain (OpenSpec.ofChange modelPathsSpec)) modelPathsCard

/-- THE TIED CARD OF 'glissadelaw22.ModelWhole'. -/
def modelWholeCard : Claim7 := { stood := { row := modelWholeRow, standIns := [], harness := (true, "a2858bb3599f325511a5ea6afc3cb64a7205ceb57b21c251972803503bc7930f"), looks := true }, kinds := [], alts := [], laidByText := true, laidKinds := [.data, .pinned], laidTests := true, laidLooks := .later }
def ModelWholeCardSaid : Prop := Claim7.holds Tryz.pinned (.plain (OpenSpec.ofChange modelWholeSpec)) modelWholeCard

/-- THE TIED CARD OF 'glissadelaw22.ModelRefuses'. -/
def modelRefusesCard : Claim7 := { stood := { row := modelRefusesRow, standIns := [], harness := (true, "a2858bb3599f325511a5ea6afc3cb64a7205ceb57b21c251972803503bc7930f"), looks := true }, kinds := [], alts := [], laidByText := true, laidKinds := [.data, .pinned], laidTests := true, laidLooks := .later }
def ModelRefusesCardSaid : Prop := Claim7.holds Tryz.pinned (.plain (OpenSpec.ofChange modelRefusesSpec)) modelRefusesCard

/-- THE TIED CARD OF 'glissadelaw22.ModelBack'. -/
def modelBackCard : Claim7 := { stood := { row := modelBackRow, standIns := [], harness := (true, "a2858bb3599f325511a5ea6afc3cb64a7205ceb57b21c251972803503bc7930f"), looks := true }, kinds := [], alts := [], laidByText := true, laidKinds := [.data, .pinned], laidTests := true, laidLooks := .later }
def ModelBackCardSaid : Prop := Claim7.holds Tryz.pinned (.plain (OpenSpec.ofChange modelBackSpec)) modelBackCard

/-- THE TIED CARD OF 'glissadelaw22.ModelShort'. -/
def modelShortCard : Claim7 := { stood := { row := modelShortRow, standIns := [], harness := (true, "a2858bb3599f325511a5ea6afc3cb64a7205ceb57b21c251972803503bc7930f"), looks := true }, kinds := [], alts := [], laidByText := true, laidKinds := [.data, .pinned], laidTests := true, laidLooks := .later }
def ModelShortCardSaid : Prop := Claim7.holds Tryz.pinned (.plain (OpenSpec.ofChange modelShortSpec)) modelShortCard

/-- THE TIED CARD OF 'glissadelaw22.ModelTwo'. -/
def modelTwoCard : Claim7 := { stood := { row := modelTwoRow, standIns := [], harness := (true, "a2858bb3599f325511a5ea6afc3cb64a7205ceb57b21c251972803503bc7930f"), looks := true }, kinds := [], alts := [], laidByText := true, laidKinds := [.data, .pinned], laidTests := true, laidLooks := .later }
def ModelTwoCardSaid : Prop := Claim7.holds Tryz.pinned (.plain (OpenSpec.ofChange modelTwoSpec)) modelTwoCard

/-- THE TIED CARD OF 'glissadelaw22.ModelPlays'. -/
def modelPlaysCard : Claim7 := { stood := { row := modelPlaysRow, standIns := [], harness := (true, "a2858bb3599f325511a5ea6afc3cb64a7205ceb57b21c251972803503bc7930f"), looks := true }, kinds := [], alts := [], laidByText := true, laidKinds := [.data, .pinned], laidTests := true, laidLooks := .later }
def ModelPlaysCardSaid : Prop := Claim7.holds Tryz.pinned (.plain (OpenSpec.ofChange modelPlaysSpec)) modelPlaysCard

/-- THE TIED CARD OF 'glissadelaw22.ModelNone'. -/
def modelNoneCard : Claim7 := { stood := { row := modelNoneRow, standIns := [], harness := (true, "a2858bb3599f325511a5ea6afc3cb64a7205ceb57b21c251972803503bc7930f"), looks := true }, kinds := [], alts := [], laidByText := true, laidKinds := [.data, .pinned], laidTests := true, laidLooks := .later }
def ModelNoneCardSaid : Prop := Claim7.holds Tryz.pinned (.plain (OpenSpec.ofChange modelNoneSpec)) modelNoneCard

/-- THE SECOND FORM's CARD OF 'glissadelaw22.ModelKeeps'. -/
def modelKeepsUptoCard : Claim7 := { stood := { row := modelKeepsUptoRow, standIns := [], harness := (true, "a2858bb3599f325511a5ea6afc3cb64a7205ceb57b21c251972803503bc7930f"), looks := true }, kinds := [], alts := [], laidByText := true, laidKinds := [.data, .pinned], laidTests := true, laidLooks := .later }
def ModelKeepsUptoCardSaid : Prop := Claim7.holds Tryz.pinned (.plain (OpenSpec.upto modelKeepsSpec)) modelKeepsUptoCard

/-- THE SECOND FORM's CARD OF 'glissadelaw22.ModelPaths'. -/
def modelPathsUptoCard : Claim7 := { stood := { row := modelPathsUptoRow, standIns := [], harness := (true, "a2858bb3599f325511a5ea6afc3cb64a7205ceb57b21c251972803503bc7930f"), looks := true }, kinds := [], alts := [], laidByText := true, laidKinds := [.data, .pinned], laidTests := true, laidLooks := .later }
def ModelPathsUptoCardSaid : Prop := Claim7.holds Tryz.pinned (.plain (OpenSpec.upto modelPathsSpec)) modelPathsUptoCard

/-- THE SECOND FORM's CARD OF 'glissadelaw22.ModelWhole'. -/
def modelWholeUptoCard : Claim7 := { stood := { row := modelWholeUptoRow, standIns := [], harness := (true, "a2858bb3599f325511a5ea6afc3cb64a7205ceb57b21c251972803503bc7930f"), looks := true }, kinds := [], alts := [], laidByText := true, laidKinds := [.data, .pinned], laidTests := true, laidLooks := .later }
def ModelWholeUptoCardSaid : Prop := Claim7.holds Tryz.pinned (.plain (OpenSpec.upto modelWholeSpec)) modelWholeUptoCard

/-- THE SECOND FORM's CARD OF 'glissadelaw22.ModelRefuses'. -/
def modelRefusesUptoCard : Claim7 := { stood := { row := modelRefusesUptoRow, standIns := [], harness := (true, "a2858bb3599f325511a5ea6afc3cb64a7205ceb57b21c251972803503bc7930f"), looks := true }, kinds := [], alts := [], laidByText := true, laidKinds := [.data, .pinned], laidTests := true, laidLooks := .later }
def ModelRefusesUptoCardSaid : Prop := Claim7.holds Tryz.pinned (.plain (OpenSpec.upto modelRefusesSpec)) modelRefusesUptoCard

/-- THE SECOND FORM's CARD OF 'glissadelaw22.ModelBack'. -/
def modelBackUptoCard : Claim7 := { stood := { row := modelBackUptoRow, standIns := [], harness := (true, "a2858bb3599f325511a5ea6afc3cb64a7205ceb57b21c251972803503bc7930f"), looks := true }, kinds := [], alts := [], laidByText := true, laidKinds := [.data, .pinned], laidTests := true, laidLooks := .later }
def ModelBackUptoCardSaid : Prop := Claim7.holds Tryz.pinned (.plain (OpenSpec.upto modelBackSpec)) modelBackUptoCard

/-- THE SECOND FORM's CARD OF 'glissadelaw22.ModelShort'. -/
def modelShortUptoCard : Claim7 := { stood := { row := modelShortUptoRow, standIns := [], harness := (true, "a2858bb3599f325511a5ea6afc3cb64a7205ceb57b21c251972803503bc7930f"), looks := true }, kinds := [], alts := [], laidByText := true, laidKinds := [.data, .pinned], laidTests := true, laidLooks := .later }
def ModelShortUptoCardSaid : Prop := Claim7.holds Tryz.pinned (.plain (OpenSpec.upto modelShortSpec)) modelShortUptoCard

/-- THE SECOND FORM's CARD OF 'glissadelaw22.ModelTwo'. -/
def modelTwoUptoCard : Claim7 := { stood := { row := modelTwoUptoRow, standIns := [], harness := (true, "a2858bb3599f325511a5ea6afc3cb64a7205ceb57b21c251972803503bc7930f"), looks := true }, kinds := [], alts := [], laidByText := true, laidKinds := [.data, .pinned], laidTests := true, laidLooks := .later }
def ModelTwoUptoCardSaid : Prop := Claim7.holds Tryz.pinned (.plain (OpenSpec.upto modelTwoSpec)) modelTwoUptoCard

/-- THE SECOND FORM's CARD OF 'glissadelaw22.ModelPlays'. -/
def modelPlaysUptoCard : Claim7 := { stood := { row := modelPlaysUptoRow, standIns := [], harness := (true, "a2858bb3599f325511a5ea6afc3cb64a7205ceb57b21c251972803503bc7930f"), looks := true }, kinds := [], alts := [], laidByText := true, laidKinds := [.data, .pinned], laidTests := true, laidLooks := .later }
def ModelPlaysUptoCardSaid : Prop := Claim7.holds Tryz.pinned (.plain (OpenSpec.upto modelPlaysSpec)) modelPlaysUptoCard

/-- THE SECOND FORM's CARD OF 'glissadelaw22.ModelNone'. -/
def modelNoneUptoCard : Claim7 := { stood := { row := modelNoneUptoRow, standIns := [], harness := (true, "a2858bb3599f325511a5ea6afc3cb64a7205ceb57b21c251972803503bc7930f"), looks := true }, kinds := [], alts := [], laidByText := true, laidKinds := [.data, .pinned], laidTests := true, laidLooks := .later }
def ModelNoneUptoCardSaid : Prop := Claim7.holds Tryz.pinned (.plain (OpenSpec.upto modelNoneSpec)) modelNoneUptoCard
end Rows
end Go.Proofs.YtppdihpobokfnaaGreatDoor
