/-
  DERIVED. GIVEN WITH THE SEED: THE CARDS: each row of YtiehfpkcaoeieaaGreatDoorRows.lean that lists a variable, with what it lists TIED to the program's text (the seventh form; the later family's looks); each row that meets fmt, with fmt's text TOLD by the authors' own Lean function (tested against real Go, not proved from fmt's source: count such statements apart). THE CARD IS WHAT COUNTS. Prove the row's statement (the work); the ties are given (YtiehfpkcaoeieaaGreatDoorTie.lean); close each card by the builder's one call (the guide's Derived/Test/ToyasCard.lean, 'card_holds'). Laid BY PROGRAM, IN A SANDBOX (cutbox-door.mjs). By AI agents, Wed Nov 11 2026. No macro, syntax, notation, axiom, sorry.
-/
import Derived.Test.YtiehfpkcaoeieaaGreatDoorRows
import GoSem.ClaimSeven
namespace Go.Proofs.YtiehfpkcaoeieaaGreatDoor
namespace Rows

/-- THE TIED CARD OF 'mahlsticklaw05.StripFirsts'. -/
def stripFirstsCard : Claim7 := { stood := { row := stripFirstsRow, standIns := [], harness := (true, "e56d594031d9c76870206d4f309e6103e459c4f934f1abaf0fce97faffa94db1"), looks := true }, kinds := [], alts := [], laidByText := true, laidKinds := [.data, .data, .data, .data, .pinned], laidTests := true, laidLooks := .later }
def StripFirstsCardSaid : Prop := Claim7.holds Tryz.pinned (.plain (OpenSpec.ofChange stripFirstsSpec)) stripFirstsCard

/-- THE TIED CARD OF 'mahlsticklaw05.StripEarly'. -/
def stripEarlyCard : Claim7 := { stood := { row := stripEarlyRow, standIns := [], harness := (true, "e56d594031d9c76870206d4f309e6103e459c4f934f1abaf0fce97faffa94db1"), looks := true }, kinds := [], alts := [], laidByText := true, laidKinds := [.data, .data, .data, .data, .pinned], laidTests := true, laidLooks := .later }
def StripEarlyCardSaid : Prop := Claim7.holds Tryz.pinned (.plain (OpenSpec.ofChange stripEarlySpec)) stripEarlyCard

/-- THE TIED CARD OF 'mahlsticklaw05.StripWords'. -/
def stripWordsCard : Claim7 := { stood := { row := stripWordsRow, standIns := [], harness := (true, "e56d594031d9c76870206d4f309e6103e459c4f934f1abaf0fce97faffa94db1"), looks := true }, kinds := [], alts := [], laidByText := true, laidKinds := [.data, .data, .data, .data, .pinned], laidTests := true, laidLooks := .later }
def StripWordsCardSaid : Prop := Claim7.holds Tryz.pinned (.plain (OpenSpec.ofChange stripWordsSpec)) stripWordsCard

/-- THE TIED CARD OF 'mahlsticklaw05.StripTrue'. -/
def stripTrueCard : Claim7 := { stood := { row := stripTrueRow, standIns := [], harness := (true, "e56d594031d9c76870206d4f309e6103e459c4f934f1abaf0fce97faffa94db1"), looks := true }, kinds := [], alts := [], laidByText := true, laidKinds := [.data, .data, .data, .data, .pinned], laidTests := true, laidLooks := .later }
def StripTrueCardSaid : Prop := Claim7.holds Tryz.pinned (.plain (OpenSpec.ofChange stripTrueSpec)) stripTrueCard

/-- THE TIED CARD OF 'mahlsticklaw05.StripAdds'. -/
def stripAddsCard : Claim7 := { stood := { row := stripAddsRow, standIns := [], harness := (true, "e56d594031d9c76870206d4f309e6103e459c4f934f1abaf0fce97faffa94db1"), looks := true }, kinds := [], alts := [], laidByText := true, laidKinds := [.data, .data, .data, .data, .pinned], laidTests := true, laidLooks := .later }
def StripAddsCardSaid : Prop := Claim7.holds Tryz.pinned (.plain (OpenSpec.ofChange stripAddsSpec)) stripAddsCard

/-- THE TIED CARD OF 'mahlsticklaw05.StripSeen'. -/
def stripSeenCard : Claim7 := { stood := { row := stripSeenRow, standIns := [], harness := (true, "e56d594031d9c76870206d4f309e6103e459c4f934f1abaf0fce97faffa94db1"), looks := true }, kinds := [], alts := [], laidByText := true, laidKinds := [.data, .data, .data, .data, .pinned], laidTests := true, laidLooks := .later }
def StripSeenCardSaid : Prop := Claim7.holds Tryz.pinned (.plain (OpenSpec.ofChange stripSeenSpec)) stripSeenCard

/-- THE TIED CARD OF 'mahlsticklaw05.StripNexts'. -/
def stripNextsCard : Claim7 := { stood := { row := stripNextsRow, standIns := [], harness := (true, "e56d594031d9c76870206d4f309e6103e459c4f934f1abaf0fce97faffa94db1"), looks := true }, kinds := [], alts := [], laidByText := true, laidKinds := [.data, .data, .data, .data, .pinned], laidTests := true, laidLooks := .later }
def StripNextsCardSaid : Prop := Claim7.holds Tryz.pinned (.plain (OpenSpec.ofChange stripNextsSpec)) stripNextsCard

/-- THE TIED CARD OF 'mahlsticklaw05.StripAsked'. -/
def stripAskedCard : Claim7 := { stood := { row := stripAskedRow, standIns := [], harness := (true, "e56d594031d9c76870206d4f309e6103e459c4f934f1abaf0fce97faffa94db1"), looks := true }, kinds := [], alts := [], laidByText := true, laidKinds := [.data, .data, .data, .data, .pinned], laidTests := true, laidLooks := .later }
def StripAskedCardSaid : Prop := Claim7.holds Tryz.pinned (.plain (OpenSpec.ofChange stripAskedSpec)) stripAskedCard

/-- THE TIED CARD OF 'mahlsticklaw05.StripClashes'. -/
def stripClashesCard : Claim7 := { stood := { row := stripClashesRow, standIns := [], harness := (true, "e56d594031d9c76870206d4f309e6103e459c4f934f1abaf0fce97faffa94db1"), looks := true }, kinds := [], alts := [], laidByText := true, laidKinds := [.data, .data, .data, .data, .pinned], laidTests := true, laidLooks := .later }
def StripClashesCardSaid : Prop := Claim7.holds Tryz.pinned (.plain (OpenSpec.ofChange stripClashesSpec)) stripClashesCard

/-- THE TIED CARD OF 'mahlsticklaw05.StripProved'. -/
def stripProvedCard : Claim7 := { stood := { row := stripProvedRow, standIns := [], harness := (true, "e56d594031d9c76870206d4f309e6103e459c4f934f1abaf0fce97faffa94db1"), looks := true }, kinds := [], alts := [], laidByText := true, laidKinds := [.data, .data, .data, .data, .pinned], laidTests := true, laidLooks := .later }
def StripProvedCardSaid : Prop := Claim7.holds Tryz.pinned (.plain (OpenSpec.ofChange stripProvedSpec)) stripProvedCard

/-- THE TIED CARD OF 'mahlsticklaw05.StripWrongs'. -/
def stripWrongsCard : Claim7 := { stood := { row := stripWrongsRow, standIns := [], harness := (true, "e56d594031d9c76870206d4f309e6103e459c4f934f1abaf0fce97faffa94db1"), looks := true }, kinds := [], alts := [], laidByText := true, laidKinds := [.data, .data, .data, .data, .pinned], laidTests := true, laidLooks := .later }
def StripWrongsCardSaid : Prop := Claim7.holds Tryz.pinned (.plain (OpenSpec.ofChange stripWrongsSpec)) stripWrongsCard

/-- THE TIED CARD OF 'mahlsticklaw05.StripBlamed'. -/
def stripBlamedCard : Claim7 := { stood := { row := stripBlamedRow, standIns := [], harness := (true, "e56d594031d9c76870206d4f309e6103e459c4f934f1abaf0fce97faffa94db1"), looks := true }, kinds := [], alts := [], laidByText := true, laidKinds := [.data, .data, .data, .data, .pinned], laidTests := true, laidLooks := .later }
def StripBlamedCardSaid : Prop := Claim7.holds Tryz.pinned (.plain (OpenSpec.ofChange stripBlamedSpec)) stripBlamedCard

/-- THE TIED CARD OF 'mahlsticklaw05.StripSames'. -/
def stripSamesCard : Claim7 := { stood := { row := stripSamesRow, standIns := [], harness := (true, "e56d594031d9c76870206d4f309e6103e459c4f934f1abaf0fce97faffa94db1"), looks := true }, kinds := [], alts := [], laidByText := true, laidKinds := [.data, .data, .data, .data, .pinned], laidTests := true, laidLooks := .later }
def StripSamesCardSaid : Prop := Claim7.holds Tryz.pinned (.plain (OpenSpec.ofChange stripSamesSpec)) stripSamesCard

/-- THE TIED CARD OF 'mahlsticklaw05.StripOwned'. -/
def stripOwnedCard : Claim7 := { stood := { row := stripOwnedRow, standIns := [], harness := (true, "e56d594031d9c76870206d4f309e6103e459c4f934f1abaf0fce97faffa94db1"), looks := true }, kinds := [], alts := [], laidByText := true, laidKinds := [.data, .data, .data, .data, .pinned], laidTests := true, laidLooks := .later }
def StripOwnedCardSaid : Prop := Claim7.holds Tryz.pinned (.plain (OpenSpec.ofChange stripOwnedSpec)) stripOwnedCard

/-- THE TIED CARD OF 'mahlsticklaw05.StripMore'. -/
def stripMoreCard : Claim7 := { stood := { row := stripMoreRow, standIns := [], harness := (true, "e56d594031d9c76870206d4f309e6103e459c4f934f1abaf0fce97faffa94db1"), looks := true }, kinds := [], alts := [], laidByText := true, laidKinds := [.data, .data, .data, .data, .pinned], laidTests := true, laidLooks := .later }
def StripMoreCardSaid : Prop := Claim7.holds Tryz.pinned (.plain (OpenSpec.ofChange stripMoreSpec)) stripMoreCard

/-- THE TIED CARD OF 'mahlsticklaw05.StripMisses'. -/
def stripMissesCard : Claim7 := { stood := { row := stripMissesRow, standIns := [], harness := (true, "e56d594031d9c76870206d4f309e6103e459c4f934f1abaf0fce97faffa94db1"), looks := true }, kinds := [], alts := [], laidByText := true, laidKinds := [.data, .data, .data, .data, .pinned], laidTests := true, laidLooks := .later }
def StripMissesCardSaid : Prop := Claim7.holds Tryz.pinned (.plain (OpenSpec.ofChange stripMissesSpec)) stripMissesCard

/-- THE TIED CARD OF 'mahlsticklaw05.StripPrints'. -/
def stripPrintsCard : Claim7 := { stood := { row := stripPrintsRow, standIns := [], harness := (true, "e56d594031d9c76870206d4f309e6103e459c4f934f1abaf0fce97faffa94db1"), looks := true }, kinds := [], alts := [], laidByText := true, laidKinds := [.data, .data, .data, .data, .pinned], laidTests := true, laidLooks := .later }
def StripPrintsCardSaid : Prop := Claim7.holds Tryz.pinned (.plain (OpenSpec.ofChange stripPrintsSpec)) stripPrintsCard

/-- THE TIED CARD OF 'mahlsticklaw05.StripReads'. -/
def stripReadsCard : Claim7 := { stood := { row := stripReadsRow, standIns := [], harness := (true, "e56d594031d9c76870206d4f309e6103e459c4f934f1abaf0fce97faffa94db1"), looks := true }, kinds := [], alts := [], laidByText := true, laidKinds := [.data, .data, .data, .data, .pinned], laidTests := true, laidLooks := .later }
def StripReadsCardSaid : Prop := Claim7.holds Tryz.pinned (.plain (OpenSpec.ofChange stripReadsSpec)) stripReadsCard

/-- THE TIED CARD OF 'mahlsticklaw05.StripSpoilt'. -/
def stripSpoiltCard : Claim7 := { stood := { row := stripSpoiltRow, standIns := [], harness := (true, "e56d594031d9c76870206d4f309e6103e459c4f934f1abaf0fce97faffa94db1"), looks := true }, kinds := [], alts := [], laidByText := true, laidKinds := [.data, .data, .data, .data, .pinned], laidTests := true, laidLooks := .later }
def StripSpoiltCardSaid : Prop := Claim7.holds Tryz.pinned (.plain (OpenSpec.ofChange stripSpoiltSpec)) stripSpoiltCard

/-- THE SECOND FORM's CARD OF 'mahlsticklaw05.StripFirsts'. -/
def stripFirstsUptoCard : Claim7 := { stood := { row := stripFirstsUptoRow, standIns := [], harness := (true, "e56d594031d9c76870206d4f309e6103e459c4f934f1abaf0fce97faffa94db1"), looks := true }, kinds := [], alts := [], laidByText := true, laidKinds := [.data, .data, .data, .data, .pinned], laidTests := true, laidLooks := .later }
def StripFirstsUptoCardSaid : Prop := Claim7.holds Tryz.pinned (.plain (OpenSpec.upto stripFirstsSpec)) stripFirstsUptoCard

/-- THE SECOND FORM's CARD OF 'mahlsticklaw05.StripEarly'. -/
def stripEarlyUptoCard : Claim7 := { stood := { row := stripEarlyUptoRow, standIns := [], harness := (true, "e56d594031d9c76870206d4f309e6103e459c4f934f1abaf0fce97faffa94db1"), looks := true }, kinds := [], alts := [], laidByText := true, laidKinds := [.data, .data, .data, .data, .pinned], laidTests := true, laidLooks := .later }
def StripEarlyUptoCardSaid : Prop := Claim7.holds Tryz.pinned (.plain (OpenSpec.upto stripEarlySpec)) stripEarlyUptoCard

/-- THE SECOND FORM's CARD OF 'mahlsticklaw05.StripWords'. -/
def stripWordsUptoCard : Claim7 := { stood := { row := stripWordsUptoRow, standIns := [], harness := (true, "e56d594031d9c76870206d4f309e6103e459c4f934f1abaf0fce97faffa94db1"), looks := true }, kinds := [], alts := [], laidByText := true, laidKinds := [.data, .data, .data, .data, .pinned], laidTests := true, laidLooks := .later }
def StripWordsUptoCardSaid : Prop := Claim7.holds Tryz.pinned (.plain (OpenSpec.upto stripWordsSpec)) stripWordsUptoCard

/-- THE SECOND FORM's CARD OF 'mahlsticklaw05.StripTrue'. -/
def stripTrueUptoCard : Claim7 := { stood := { row := stripTrueUptoRow, standIns := [], harness := (true, "e56d594031d9c76870206d4f309e6103e459c4f934f1abaf0fce97faffa94db1"), looks := true }, kinds := [], alts := [], laidByText := true, laidKinds := [.data, .data, .data, .data, .pinned], laidTests := true, laidLooks := .later }
def StripTrueUptoCardSaid : Prop := Claim7.holds Tryz.pinned (.plain (OpenSpec.upto stripTrueSpec)) stripTrueUptoCard

/-- THE SECOND FORM's CARD OF 'mahlsticklaw05.StripAdds'. -/
def stripAddsUptoCard : Claim7 := { stood := { row := stripAddsUptoRow, standIns := [], harness := (true, "e56d594031d9c76870206d4f309e6103e459c4f934f1abaf0fce97faffa94db1"), looks := true }, kinds := [], alts := [], laidByText := true, laidKinds := [.data, .data, .data, .data, .pinned], laidTests := true, laidLooks := .later }
def StripAddsUptoCardSaid : Prop := Claim7.holds Tryz.pinned (.plain (OpenSpec.upto stripAddsSpec)) stripAddsUptoCard

/-- THE SECOND FORM's CARD OF 'mahlsticklaw05.StripSeen'. -/
def stripSeenUptoCard : Claim7 := { stood := { row := stripSeenUptoRow, standIns := [], harness := (true, "e56d594031d9c76870206d4f309e6103e459c4f934f1abaf0fce97faffa94db1"), looks := true }, kinds := [], alts := [], laidByText := true, laidKinds := [.data, .data, .data, .data, .pinned], laidTests := true, laidLooks := .later }
def StripSeenUptoCardSaid : Prop := Claim7.holds Tryz.pinned (.plain (OpenSpec.upto stripSeenSpec)) stripSeenUptoCard

/-- THE SECOND FORM's CARD OF 'mahlsticklaw05.StripNexts'. -/
def stripNextsUptoCard : Claim7 := { stood := { row := stripNextsUptoRow, standIns := [], harness := (true, "e56d594031d9c76870206d4f309e6103e459c4f934f1abaf0fce97faffa94db1"), looks := true }, kinds := [], alts := [], laidByText := true, laidKinds := [.data, .data, .data, .data, .pinned], laidTests := true, laidLooks := .later }
def StripNextsUptoCardSaid : Prop := Claim7.holds Tryz.pinned (.plain (OpenSpec.upto stripNextsSpec)) stripNextsUptoCard

/-- THE SECOND FORM's CARD OF 'mahlsticklaw05.StripAsked'. -/
def stripAskedUptoCard : Claim7 := { stood := { row := stripAskedUptoRow, standIns := [], harness := (true, "e56d594031d9c76870206d4f309e6103e459c4f934f1abaf0fce97faffa94db1"), looks := true }, kinds := [], alts := [], laidByText := true, laidKinds := [.data, .data, .data, .data, .pinned], laidTests := true, laidLooks := .later }
def StripAskedUptoCardSaid : Prop := Claim7.holds Tryz.pinned (.plain (OpenSpec.upto stripAskedSpec)) stripAskedUptoCard

/-- THE SECOND FORM's CARD OF 'mahlsticklaw05.StripClashes'. -/
def stripClashesUptoCard : Claim7 := { stood := { row := stripClashesUptoRow, standIns := [], harness := (true, "e56d594031d9c76870206d4f309e6103e459c4f934f1abaf0fce97faffa94db1"), looks := true }, kinds := [], alts := [], laidByText := true, laidKinds := [.data, .data, .data, .data, .pinned], laidTests := true, laidLooks := .later }
def StripClashesUptoCardSaid : Prop := Claim7.holds Tryz.pinned (.plain (OpenSpec.upto stripClashesSpec)) stripClashesUptoCard

/-- THE SECOND FORM's CARD OF 'mahlsticklaw05.StripProved'. -/
def stripProvedUptoCard : Claim7 := { stood := { row := stripProvedUptoRow, standIns := [], harness := (true, "e56d594031d9c76870206d4f309e6103e459c4f934f1abaf0fce97faffa94db1"), looks := true }, kinds := [], alts := [], laidByText := true, laidKinds := [.data, .data, .data, .data, .pinned], laidTests := true, laidLooks := .later }
def StripProvedUptoCardSaid : Prop := Claim7.holds Tryz.pinned (.plain (OpenSpec.upto stripProvedSpec)) stripProvedUptoCard

/-- THE SECOND FORM's CARD OF 'mahlsticklaw05.StripWrongs'. -/
def stripWrongsUptoCard : Claim7 := { stood := { row := stripWrongsUptoRow, standIns := [], harness := (true, "e56d594031d9c76870206d4f309e6103e459c4f934f1abaf0fce97faffa94db1"), looks := true }, kinds := [], alts := [], laidByText := true, laidKinds := [.data, .data, .data, .data, .pinned], laidTests := true, laidLooks := .later }
def StripWrongsUptoCardSaid : Prop := Claim7.holds Tryz.pinned (.plain (OpenSpec.upto stripWrongsSpec)) stripWrongsUptoCard

/-- THE SECOND FORM's CARD OF 'mahlsticklaw05.StripBlamed'. -/
def stripBlamedUptoCard : Claim7 := { stood := { row := stripBlamedUptoRow, standIns := [], harness := (true, "e56d594031d9c76870206d4f309e6103e459c4f934f1abaf0fce97faffa94db1"), looks := true }, kinds := [], alts := [], laidByText := true, laidKinds := [.data, .data, .data, .data, .pinned], laidTests := true, laidLooks := .later }
def StripBlamedUptoCardSaid : Prop := Claim7.holds Tryz.pinned (.plain (OpenSpec.upto stripBlamedSpec)) stripBlamedUptoCard

/-- THE SECOND FORM's CARD OF 'mahlsticklaw05.StripSames'. -/
def stripSamesUptoCard : Claim7 := { stood := { row := stripSamesUptoRow, standIns := [], harness := (true, "e56d594031d9c76870206d4f309e6103e459c4f934f1abaf0fce97faffa94db1"), looks := true }, kinds := [], alts := [], laidByText := true, laidKinds := [.data, .data, .data, .data, .pinned], laidTests := true, laidLooks := .later }
def StripSamesUptoCardSaid : Prop := Claim7.holds Tryz.pinned (.plain (OpenSpec.upto stripSamesSpec)) stripSamesUptoCard

/-- THE SECOND FORM's CARD OF 'mahlsticklaw05.StripOwned'. -/
def stripOwnedUptoCard : Claim7 := { stood := { row := stripOwnedUptoRow, standIns := [], harness := (true, "e56d594031d9c76870206d4f309e6103e459c4f934f1abaf0fce97faffa94db1"), looks := true }, kinds := [], alts := [], laidByText := true, laidKinds := [.data, .data, .data, .data, .pinned], laidTests := true, laidLooks := .later }
def StripOwnedUptoCardSaid : Prop := Claim7.holds Tryz.pinned (.plain (OpenSpec.upto stripOwnedSpec)) stripOwnedUptoCard

/-- THE SECOND FORM's CARD OF 'mahlsticklaw05.StripMore'. -/
def stripMoreUptoCard : Claim7 := { stood := { row := stripMoreUptoRow, standIns := [], harness := (true, "e56d594031d9c76870206d4f309e6103e459c4f934f1abaf0fce97faffa94db1"), looks := true }, kinds := [], alts := [], laidByText := true, laidKinds := [.data, .data, .data, .data, .pinned], laidTests := true, laidLooks := .later }
def StripMoreUptoCardSaid : Prop := Claim7.holds Tryz.pinned (.plain (OpenSpec.upto stripMoreSpec)) stripMoreUptoCard

/-- THE SECOND FORM's CARD OF 'mahlsticklaw05.StripMisses'. -/
def stripMissesUptoCard : Claim7 := { stood := { row := stripMissesUptoRow, standIns := [], harness := (true, "e56d594031d9c76870206d4f309e6103e459c4f934f1abaf0fce97faffa94db1"), looks := true }, kinds := [], alts := [], laidByText := true, laidKinds := [.data, .data, .data, .data, .pinned], laidTests := true, laidLooks := .later }
def StripMissesUptoCardSaid : Prop := Claim7.holds Tryz.pinned (.plain (OpenSpec.upto stripMissesSpec)) stripMissesUptoCard

/-- THE SECOND FORM's CARD OF 'mahlsticklaw05.StripPrints'. -/
def stripPrintsUptoCard : Claim7 := { stood := { row := stripPrintsUptoRow, standIns := [], harness := (true, "e56d594031d9c76870206d4f309e6103e459c4f934f1abaf0fce97faffa94db1"), looks := true }, kinds := [], alts := [], laidByText := true, laidKinds := [.data, .data, .data, .data, .pinned], laidTests := true, laidLooks := .later }
def StripPrintsUptoCardSaid : Prop := Claim7.holds Tryz.pinned (.plain (OpenSpec.upto stripPrintsSpec)) stripPrintsUptoCard

/-- THE SECOND FORM's CARD OF 'mahlsticklaw05.StripReads'. -/
def stripReadsUptoCard : Claim7 := { stood := { row := stripReadsUptoRow, standIns := [], harness := (true, "e56d594031d9c76870206d4f309e6103e459c4f934f1abaf0fce97faffa94db1"), looks := true }, kinds := [], alts := [], laidByText := true, laidKinds := [.data, .data, .data, .data, .pinned], laidTests := true, laidLooks := .later }
def StripReadsUptoCardSaid : Prop := Claim7.holds Tryz.pinned (.plain (OpenSpec.upto stripReadsSpec)) stripReadsUptoCard

/-- THE SECOND FORM's CARD OF 'mahlsticklaw05.StripSpoilt'. -/
def stripSpoiltUptoCard : Claim7 := { stood := { row := stripSpoiltUptoRow, standIns := [], harness := (true, "e56d594031d9c76870206d4f309e6103e459c4f934f1abaf0fce97faffa94db1"), looks := true }, kinds := [], alts := [], laidByText := true, laidKinds := [.data, .data, .data, .data, .pinned], laidTests := true, laidLooks := .later }
def StripSpoiltUptoCardSaid : Prop := Claim7.holds Tryz.pinned (.plain (OpenSpec.upto stripSpoiltSpec)) stripSpoiltUptoCard
end Rows
end Go.Proofs.YtiehfpkcaoeieaaGreatDoor
