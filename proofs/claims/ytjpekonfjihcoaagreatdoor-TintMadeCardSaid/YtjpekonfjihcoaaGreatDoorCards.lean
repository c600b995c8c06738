/-
  DERIVED. GIVEN WITH THE SEED: THE CARDS: each row of YtjpekonfjihcoaaGreatDoorRows.lean that lists a variable, with what it lists TIED to the program's text (the seventh form; the later family's looks); each row that meets fmt, with fmt's text TOLD by the authors' own Lean function (tested against real Go, not proved from fmt's source: count such statements apart). THE CARD IS WHAT COUNTS. Prove the row's statement (the work); the ties are given (YtjpekonfjihcoaaGreatDoorTie.lean); close each card by the builder's one call (the guide's Derived/Test/ToyasCard.lean, 'card_holds'). Laid BY PROGRAM, IN A SANDBOX (cutbox-door.mjs). By AI agents, Wed Nov 11 2026. No macro, syntax, notation, axiom, sorry.
-/
import Derived.Test.YtjpekonfjihcoaaGreatDoorRows
import GoSem.ClaimSeven
namespace Go.Proofs.YtjpekonfjihcoaaGreatDoor
namespace Rows

/-- THE TIED CARD OF 'mahlsticklaw07.TintTruths'. -/
def tintTruthsCard : Claim7 := { stood := { row := tintTruthsRow, standIns := [], harness := (true, "e32e88918bb9156dc879f76e0c37224603ef7b372f2d50b7754a6446120e31cd"), looks := true }, kinds := [], alts := [], laidByText := true, laidKinds := [.data, .data, .data, .data, .pinned], laidTests := true, laidLooks := .later }
def TintTruthsCardSaid : Prop := Claim7.holds Tryz.pinned (.plain (OpenSpec.ofChange tintTruthsSpec)) tintTruthsCard

/-- THE TIED CARD OF 'mahlsticklaw07.TintWords'. -/
def tintWordsCard : Claim7 := { stood := { row := tintWordsRow, standIns := [], harness := (true, "e32e88918bb9156dc879f76e0c37224603ef7b372f2d50b7754a6446120e31cd"), looks := true }, kinds := [], alts := [], laidByText := true, laidKinds := [.data, .data, .data, .data, .pinned], laidTests := true, laidLooks := .later }
def TintWordsCardSaid : Prop := Claim7.holds Tryz.pinned (.plain (OpenSpec.ofChange tintWordsSpec)) tintWordsCard

/-- THE TIED CARD OF 'mahlsticklaw07.TintTrue'. -/
def tintTrueCard : Claim7 := { stood := { row := tintTrueRow, standIns := [], harness := (true, "e32e88918bb9156dc879f76e0c37224603ef7b372f2d50b7754a6446120e31cd"), looks := true }, kinds := [], alts := [], laidByText := true, laidKinds := [.data, .data, .data, .data, .pinned], laidTests := true, laidLooks := .later }
def TintTrueCardSaid : Prop := Claim7.holds Tryz.pinned (.plain (OpenSpec.ofChange tintTrueSpec)) tintTrueCard

/-- THE TIED CARD OF 'mahlsticklaw07.TintCorners'. -/
def tintCornersCard : Claim7 := { stood := { row := tintCornersRow, standIns := [], harness := (true, "e32e88918bb9156dc879f76e0c37224603ef7b372f2d50b7754a6446120e31cd"), looks := true }, kinds := [], alts := [], laidByText := true, laidKinds := [.data, .data, .data, .data, .pinned], laidTests := true, laidLooks := .later }
def TintCornersCardSaid : Prop := Claim7.holds Tryz.pinned (.plain (OpenSpec.ofChange tintCornersSpec)) tintCornersCard

/-- THE TIED CARD OF 'mahlsticklaw07.TintFirsts'. -/
def tintFirstsCard : Claim7 := { stood := { row := tintFirstsRow, standIns := [], harness := (true, "e32e88918bb9156dc879f76e0c37224603ef7b372f2d50b7754a6446120e31cd"), looks := true }, kinds := [], alts := [], laidByText := true, laidKinds := [.data, .data, .data, .data, .pinned], laidTests := true, laidLooks := .later }
def TintFirstsCardSaid : Prop := Claim7.holds Tryz.pinned (.plain (OpenSpec.ofChange tintFirstsSpec)) tintFirstsCard

/-- THE TIED CARD OF 'mahlsticklaw07.TintRival'. -/
def tintRivalCard : Claim7 := { stood := { row := tintRivalRow, standIns := [], harness := (true, "e32e88918bb9156dc879f76e0c37224603ef7b372f2d50b7754a6446120e31cd"), looks := true }, kinds := [], alts := [], laidByText := true, laidKinds := [.data, .data, .data, .data, .pinned], laidTests := true, laidLooks := .later }
def TintRivalCardSaid : Prop := Claim7.holds Tryz.pinned (.plain (OpenSpec.ofChange tintRivalSpec)) tintRivalCard

/-- THE TIED CARD OF 'mahlsticklaw07.TintNears'. -/
def tintNearsCard : Claim7 := { stood := { row := tintNearsRow, standIns := [], harness := (true, "e32e88918bb9156dc879f76e0c37224603ef7b372f2d50b7754a6446120e31cd"), looks := true }, kinds := [], alts := [], laidByText := true, laidKinds := [.data, .data, .data, .data, .pinned], laidTests := true, laidLooks := .later }
def TintNearsCardSaid : Prop := Claim7.holds Tryz.pinned (.plain (OpenSpec.ofChange tintNearsSpec)) tintNearsCard

/-- THE TIED CARD OF 'mahlsticklaw07.TintNearer'. -/
def tintNearerCard : Claim7 := { stood := { row := tintNearerRow, standIns := [], harness := (true, "e32e88918bb9156dc879f76e0c37224603ef7b372f2d50b7754a6446120e31cd"), looks := true }, kinds := [], alts := [], laidByText := true, laidKinds := [.data, .data, .data, .data, .pinned], laidTests := true, laidLooks := .later }
def TintNearerCardSaid : Prop := Claim7.holds Tryz.pinned (.plain (OpenSpec.ofChange tintNearerSpec)) tintNearerCard

/-- THE TIED CARD OF 'mahlsticklaw07.TintNeeds'. -/
def tintNeedsCard : Claim7 := { stood := { row := tintNeedsRow, standIns := [], harness := (true, "e32e88918bb9156dc879f76e0c37224603ef7b372f2d50b7754a6446120e31cd"), looks := true }, kinds := [], alts := [], laidByText := true, laidKinds := [.data, .data, .data, .data, .pinned], laidTests := true, laidLooks := .later }
def TintNeedsCardSaid : Prop := Claim7.holds Tryz.pinned (.plain (OpenSpec.ofChange tintNeedsSpec)) tintNeedsCard

/-- THE TIED CARD OF 'mahlsticklaw07.TintEnough'. -/
def tintEnoughCard : Claim7 := { stood := { row := tintEnoughRow, standIns := [], harness := (true, "e32e88918bb9156dc879f76e0c37224603ef7b372f2d50b7754a6446120e31cd"), looks := true }, kinds := [], alts := [], laidByText := true, laidKinds := [.data, .data, .data, .data, .pinned], laidTests := true, laidLooks := .later }
def TintEnoughCardSaid : Prop := Claim7.holds Tryz.pinned (.plain (OpenSpec.ofChange tintEnoughSpec)) tintEnoughCard

/-- THE TIED CARD OF 'mahlsticklaw07.TintProofs'. -/
def tintProofsCard : Claim7 := { stood := { row := tintProofsRow, standIns := [], harness := (true, "e32e88918bb9156dc879f76e0c37224603ef7b372f2d50b7754a6446120e31cd"), looks := true }, kinds := [], alts := [], laidByText := true, laidKinds := [.data, .data, .data, .data, .pinned], laidTests := true, laidLooks := .later }
def TintProofsCardSaid : Prop := Claim7.holds Tryz.pinned (.plain (OpenSpec.ofChange tintProofsSpec)) tintProofsCard

/-- THE TIED CARD OF 'mahlsticklaw07.TintProved'. -/
def tintProvedCard : Claim7 := { stood := { row := tintProvedRow, standIns := [], harness := (true, "e32e88918bb9156dc879f76e0c37224603ef7b372f2d50b7754a6446120e31cd"), looks := true }, kinds := [], alts := [], laidByText := true, laidKinds := [.data, .data, .data, .data, .pinned], laidTests := true, laidLooks := .later }
def TintProvedCardSaid : Prop := Claim7.holds Tryz.pinned (.plain (OpenSpec.ofChange tintProvedSpec)) tintProvedCard

/-- THE TIED CARD OF 'mahlsticklaw07.TintMade'. -/
def tintMadeCard : Claim7 := { stood := { row := tintMadeRow, standIns := [], harness := (true, "e32e88918bb9156dc879f76e0c37224603ef7b372f2d50b7754a6446120e31cd"), looks := true }, kinds := [], alts := [], laidByText := true, laidKinds := [.data, .data, .data, .data, .pinned], laidTests := true, laidLooks := .later }
def TintMadeCardSaid : Prop := Claim7.holds Tryz.pinned (.plain (OpenSpec.ofChange tintMadeSpec)) tintMadeCard

/-- THE TIED CARD OF 'mahlsticklaw07.TintMore'. -/
def tintMoreCard : Claim7 := { stood := { row := tintMoreRow, standIns := [], harness := (true, "e32e88918bb9156dc879f76e0c37224603ef7b372f2d50b7754a6446120e31cd"), looks := true }, kinds := [], alts := [], laidByText := true, laidKinds := [.data, .data, .data, .data, .pinned], laidTests := true, laidLooks := .later }
def TintMoreCardSaid : Prop := Claim7.holds Tryz.pinned (.plain (OpenSpec.ofChange tintMoreSpec)) tintMoreCard

/-- THE TIED CARD OF 'mahlsticklaw07.TintSums'. -/
def tintSumsCard : Claim7 := { stood := { row := tintSumsRow, standIns := [], harness := (true, "e32e88918bb9156dc879f76e0c37224603ef7b372f2d50b7754a6446120e31cd"), looks := true }, kinds := [], alts := [], laidByText := true, laidKinds := [.data, .data, .data, .data, .pinned], laidTests := true, laidLooks := .later }
def TintSumsCardSaid : Prop := Claim7.holds Tryz.pinned (.plain (OpenSpec.ofChange tintSumsSpec)) tintSumsCard

/-- THE TIED CARD OF 'mahlsticklaw07.TintPrints'. -/
def tintPrintsCard : Claim7 := { stood := { row := tintPrintsRow, standIns := [], harness := (true, "e32e88918bb9156dc879f76e0c37224603ef7b372f2d50b7754a6446120e31cd"), looks := true }, kinds := [], alts := [], laidByText := true, laidKinds := [.data, .data, .data, .data, .pinned], laidTests := true, laidLooks := .later }
def TintPrintsCardSaid : Prop := Claim7.holds Tryz.pinned (.plain (OpenSpec.ofChange tintPrintsSpec)) tintPrintsCard

/-- THE TIED CARD OF 'mahlsticklaw07.TintReads'. -/
def tintReadsCard : Claim7 := { stood := { row := tintReadsRow, standIns := [], harness := (true, "e32e88918bb9156dc879f76e0c37224603ef7b372f2d50b7754a6446120e31cd"), looks := true }, kinds := [], alts := [], laidByText := true, laidKinds := [.data, .data, .data, .data, .pinned], laidTests := true, laidLooks := .later }
def TintReadsCardSaid : Prop := Claim7.holds Tryz.pinned (.plain (OpenSpec.ofChange tintReadsSpec)) tintReadsCard

/-- THE TIED CARD OF 'mahlsticklaw07.TintSpoilt'. -/
def tintSpoiltCard : Claim7 := { stood := { row := tintSpoiltRow, standIns := [], harness := (true, "e32e88918bb9156dc879f76e0c37224603ef7b372f2d50b7754a6446120e31cd"), looks := true }, kinds := [], alts := [], laidByText := true, laidKinds := [.data, .data, .data, .data, .pinned], laidTests := true, laidLooks := .later }
def TintSpoiltCardSaid : Prop := Claim7.holds Tryz.pinned (.plain (OpenSpec.ofChange tintSpoiltSpec)) tintSpoiltCard

/-- THE SECOND FORM's CARD OF 'mahlsticklaw07.TintTruths'. -/
def tintTruthsUptoCard : Claim7 := { stood := { row := tintTruthsUptoRow, standIns := [], harness := (true, "e32e88918bb9156dc879f76e0c37224603ef7b372f2d50b7754a6446120e31cd"), looks := true }, kinds := [], alts := [], laidByText := true, laidKinds := [.data, .data, .data, .data, .pinned], laidTests := true, laidLooks := .later }
def TintTruthsUptoCardSaid : Prop := Claim7.holds Tryz.pinned (.plain (OpenSpec.upto tintTruthsSpec)) tintTruthsUptoCard

/-- THE SECOND FORM's CARD OF 'mahlsticklaw07.TintWords'. -/
def tintWordsUptoCard : Claim7 := { stood := { row := tintWordsUptoRow, standIns := [], harness := (true, "e32e88918bb9156dc879f76e0c37224603ef7b372f2d50b7754a6446120e31cd"), looks := true }, kinds := [], alts := [], laidByText := true, laidKinds := [.data, .data, .data, .data, .pinned], laidTests := true, laidLooks := .later }
def TintWordsUptoCardSaid : Prop := Claim7.holds Tryz.pinned (.plain (OpenSpec.upto tintWordsSpec)) tintWordsUptoCard

/-- THE SECOND FORM's CARD OF 'mahlsticklaw07.TintTrue'. -/
def tintTrueUptoCard : Claim7 := { stood := { row := tintTrueUptoRow, standIns := [], harness := (true, "e32e88918bb9156dc879f76e0c37224603ef7b372f2d50b7754a6446120e31cd"), looks := true }, kinds := [], alts := [], laidByText := true, laidKinds := [.data, .data, .data, .data, .pinned], laidTests := true, laidLooks := .later }
def TintTrueUptoCardSaid : Prop := Claim7.holds Tryz.pinned (.plain (OpenSpec.upto tintTrueSpec)) tintTrueUptoCard

/-- THE SECOND FORM's CARD OF 'mahlsticklaw07.TintCorners'. -/
def tintCornersUptoCard : Claim7 := { stood := { row := tintCornersUptoRow, standIns := [], harness := (true, "e32e88918bb9156dc879f76e0c37224603ef7b372f2d50b7754a6446120e31cd"), looks := true }, kinds := [], alts := [], laidByText := true, laidKinds := [.data, .data, .data, .data, .pinned], laidTests := true, laidLooks := .later }
def TintCornersUptoCardSaid : Prop := Claim7.holds Tryz.pinned (.plain (OpenSpec.upto tintCornersSpec)) tintCornersUptoCard

/-- THE SECOND FORM's CARD OF 'mahlsticklaw07.TintFirsts'. -/
def tintFirstsUptoCard : Claim7 := { stood := { row := tintFirstsUptoRow, standIns := [], harness := (true, "e32e88918bb9156dc879f76e0c37224603ef7b372f2d50b7754a6446120e31cd"), looks := true }, kinds := [], alts := [], laidByText := true, laidKinds := [.data, .data, .data, .data, .pinned], laidTests := true, laidLooks := .later }
def TintFirstsUptoCardSaid : Prop := Claim7.holds Tryz.pinned (.plain (OpenSpec.upto tintFirstsSpec)) tintFirstsUptoCard

/-- THE SECOND FORM's CARD OF 'mahlsticklaw07.TintRival'. -/
def tintRivalUptoCard : Claim7 := { stood := { row := tintRivalUptoRow, standIns := [], harness := (true, "e32e88918bb9156dc879f76e0c37224603ef7b372f2d50b7754a6446120e31cd"), looks := true }, kinds := [], alts := [], laidByText := true, laidKinds := [.data, .data, .data, .data, .pinned], laidTests := true, laidLooks := .later }
def TintRivalUptoCardSaid : Prop := Claim7.holds Tryz.pinned (.plain (OpenSpec.upto tintRivalSpec)) tintRivalUptoCard

/-- THE SECOND FORM's CARD OF 'mahlsticklaw07.TintNears'. -/
def tintNearsUptoCard : Claim7 := { stood := { row := tintNearsUptoRow, standIns := [], harness := (true, "e32e88918bb9156dc879f76e0c37224603ef7b372f2d50b7754a6446120e31cd"), looks := true }, kinds := [], alts := [], laidByText := true, laidKinds := [.data, .data, .data, .data, .pinned], laidTests := true, laidLooks := .later }
def TintNearsUptoCardSaid : Prop := Claim7.holds Tryz.pinned (.plain (OpenSpec.upto tintNearsSpec)) tintNearsUptoCard

/-- THE SECOND FORM's CARD OF 'mahlsticklaw07.TintNearer'. -/
def tintNearerUptoCard : Claim7 := { stood := { row := tintNearerUptoRow, standIns := [], harness := (true, "e32e88918bb9156dc879f76e0c37224603ef7b372f2d50b7754a6446120e31cd"), looks := true }, kinds := [], alts := [], laidByText := true, laidKinds := [.data, .data, .data, .data, .pinned], laidTests := true, laidLooks := .later }
def TintNearerUptoCardSaid : Prop := Claim7.holds Tryz.pinned (.plain (OpenSpec.upto tintNearerSpec)) tintNearerUptoCard

/-- THE SECOND FORM's CARD OF 'mahlsticklaw07.TintNeeds'. -/
def tintNeedsUptoCard : Claim7 := { stood := { row := tintNeedsUptoRow, standIns := [], harness := (true, "e32e88918bb9156dc879f76e0c37224603ef7b372f2d50b7754a6446120e31cd"), looks := true }, kinds := [], alts := [], laidByText := true, laidKinds := [.data, .data, .data, .data, .pinned], laidTests := true, laidLooks := .later }
def TintNeedsUptoCardSaid : Prop := Claim7.holds Tryz.pinned (.plain (OpenSpec.upto tintNeedsSpec)) tintNeedsUptoCard

/-- THE SECOND FORM's CARD OF 'mahlsticklaw07.TintEnough'. -/
def tintEnoughUptoCard : Claim7 := { stood := { row := tintEnoughUptoRow, standIns := [], harness := (true, "e32e88918bb9156dc879f76e0c37224603ef7b372f2d50b7754a6446120e31cd"), looks := true }, kinds := [], alts := [], laidByText := true, laidKinds := [.data, .data, .data, .data, .pinned], laidTests := true, laidLooks := .later }
def TintEnoughUptoCardSaid : Prop := Claim7.holds Tryz.pinned (.plain (OpenSpec.upto tintEnoughSpec)) tintEnoughUptoCard

/-- THE SECOND FORM's CARD OF 'mahlsticklaw07.TintProofs'. -/
def tintProofsUptoCard : Claim7 := { stood := { row := tintProofsUptoRow, standIns := [], harness := (true, "e32e88918bb9156dc879f76e0c37224603ef7b372f2d50b7754a6446120e31cd"), looks := true }, kinds := [], alts := [], laidByText := true, laidKinds := [.data, .data, .data, .data, .pinned], laidTests := true, laidLooks := .later }
def TintProofsUptoCardSaid : Prop := Claim7.holds Tryz.pinned (.plain (OpenSpec.upto tintProofsSpec)) tintProofsUptoCard

/-- THE SECOND FORM's CARD OF 'mahlsticklaw07.TintProved'. -/
def tintProvedUptoCard : Claim7 := { stood := { row := tintProvedUptoRow, standIns := [], harness := (true, "e32e88918bb9156dc879f76e0c37224603ef7b372f2d50b7754a6446120e31cd"), looks := true }, kinds := [], alts := [], laidByText := true, laidKinds := [.data, .data, .data, .data, .pinned], laidTests := true, laidLooks := .later }
def TintProvedUptoCardSaid : Prop := Claim7.holds Tryz.pinned (.plain (OpenSpec.upto tintProvedSpec)) tintProvedUptoCard

/-- THE SECOND FORM's CARD OF 'mahlsticklaw07.TintMade'. -/
def tintMadeUptoCard : Claim7 := { stood := { row := tintMadeUptoRow, standIns := [], harness := (true, "e32e88918bb9156dc879f76e0c37224603ef7b372f2d50b7754a6446120e31cd"), looks := true }, kinds := [], alts := [], laidByText := true, laidKinds := [.data, .data, .data, .data, .pinned], laidTests := true, laidLooks := .later }
def TintMadeUptoCardSaid : Prop := Claim7.holds Tryz.pinned (.plain (OpenSpec.upto tintMadeSpec)) tintMadeUptoCard

/-- THE SECOND FORM's CARD OF 'mahlsticklaw07.TintMore'. -/
def tintMoreUptoCard : Claim7 := { stood := { row := tintMoreUptoRow, standIns := [], harness := (true, "e32e88918bb9156dc879f76e0c37224603ef7b372f2d50b7754a6446120e31cd"), looks := true }, kinds := [], alts := [], laidByText := true, laidKinds := [.data, .data, .data, .data, .pinned], laidTests := true, laidLooks := .later }
def TintMoreUptoCardSaid : Prop := Claim7.holds Tryz.pinned (.plain (OpenSpec.upto tintMoreSpec)) tintMoreUptoCard

/-- THE SECOND FORM's CARD OF 'mahlsticklaw07.TintSums'. -/
def tintSumsUptoCard : Claim7 := { stood := { row := tintSumsUptoRow, standIns := [], harness := (true, "e32e88918bb9156dc879f76e0c37224603ef7b372f2d50b7754a6446120e31cd"), looks := true }, kinds := [], alts := [], laidByText := true, laidKinds := [.data, .data, .data, .data, .pinned], laidTests := true, laidLooks := .later }
def TintSumsUptoCardSaid : Prop := Claim7.holds Tryz.pinned (.plain (OpenSpec.upto tintSumsSpec)) tintSumsUptoCard

/-- THE SECOND FORM's CARD OF 'mahlsticklaw07.TintPrints'. -/
def tintPrintsUptoCard : Claim7 := { stood := { row := tintPrintsUptoRow, standIns := [], harness := (true, "e32e88918bb9156dc879f76e0c37224603ef7b372f2d50b7754a6446120e31cd"), looks := true }, kinds := [], alts := [], laidByText := true, laidKinds := [.data, .data, .data, .data, .pinned], laidTests := true, laidLooks := .later }
def TintPrintsUptoCardSaid : Prop := Claim7.holds Tryz.pinned (.plain (OpenSpec.upto tintPrintsSpec)) tintPrintsUptoCard

/-- THE SECOND FORM's CARD OF 'mahlsticklaw07.TintReads'. -/
def tintReadsUptoCard : Claim7 := { stood := { row := tintReadsUptoRow, standIns := [], harness := (true, "e32e88918bb9156dc879f76e0c37224603ef7b372f2d50b7754a6446120e31cd"), looks := true }, kinds := [], alts := [], laidByText := true, laidKinds := [.data, .data, .data, .data, .pinned], laidTests := true, laidLooks := .later }
def TintReadsUptoCardSaid : Prop := Claim7.holds Tryz.pinned (.plain (OpenSpec.upto tintReadsSpec)) tintReadsUptoCard

/-- THE SECOND FORM's CARD OF 'mahlsticklaw07.TintSpoilt'. -/
def tintSpoiltUptoCard : Claim7 := { stood := { row := tintSpoiltUptoRow, standIns := [], harness := (true, "e32e88918bb9156dc879f76e0c37224603ef7b372f2d50b7754a6446120e31cd"), looks := true }, kinds := [], alts := [], laidByText := true, laidKinds := [.data, .data, .data, .data, .pinned], laidTests := true, laidLooks := .later }
def TintSpoiltUptoCardSaid : Prop := Claim7.holds Tryz.pinned (.plain (OpenSpec.upto tintSpoiltSpec)) tintSpoiltUptoCard
end Rows
end Go.Proofs.YtjpekonfjihcoaaGreatDoor
