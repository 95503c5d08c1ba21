/-
  DERIVED. GIVEN WITH THE SEED: THE CARDS: each row of YtapboamjpilckaaDoorRows.lean that lists a variable, with what it lists TIED to the program's text (the seventh form; the later family's looks); each row that meets fmt, with fmt's text TOLD by the authors' own Lean function (tested against real Go, not proved from fmt's source: count such statements apart). THE CARD IS WHAT COUNTS. Prove the row's statement (the work); the ties are given (YtapboamjpilckaaDoorTie.lean); close each card by the builder's one call (the guide's Derived/Test/ToyasCard.lean, 'card_holds'). Laid BY PROGRAM, IN A SANDBOX (cutbox-door.mjs). By AI agents, Wed Nov 11 2026. No macro, syntax, notation, axiom, sorry.
-/
import Derived.Test.YtapboamjpilckaaDoorRows
import GoSem.ClaimSeven
namespace Go.Proofs.YtapboamjpilckaaDoor
namespace Rows

/-- THE TIED CARD OF 'notarylaw28.SignMacs'. -/
def signMacsCard : Claim7 := { stood := { row := signMacsRow, standIns := [], harness := (true, "da6d707002f447ab700cac539661cc6b898ab82d6049dbbe8068a1092b743e3c"), looks := true }, kinds := [], alts := [], laidByText := true, laidKinds := [.data, .data, .data], laidTests := true, laidLooks := .later }
def SignMacsCardSaid : Prop := Claim7.holds Tryd.pinned (.plain (OpenSpec.ofChange signMacsSpec)) signMacsCard

/-- THE TIED CARD OF 'notarylaw28.SignNames'. -/
def signNamesCard : Claim7 := { stood := { row := signNamesRow, standIns := [], harness := (true, "da6d707002f447ab700cac539661cc6b898ab82d6049dbbe8068a1092b743e3c"), looks := true }, kinds := [], alts := [], laidByText := true, laidKinds := [.data, .data, .data], laidTests := true, laidLooks := .later }
def SignNamesCardSaid : Prop := Claim7.holds Tryd.pinned (.plain (OpenSpec.ofChange signNamesSpec)) signNamesCard

/-- THE TIED CARD OF 'notarylaw28.SignNotes'. -/
def signNotesCard : Claim7 := { stood := { row := signNotesRow, standIns := [], harness := (true, "da6d707002f447ab700cac539661cc6b898ab82d6049dbbe8068a1092b743e3c"), looks := true }, kinds := [], alts := [], laidByText := true, laidKinds := [.data, .data, .data], laidTests := true, laidLooks := .later }
def SignNotesCardSaid : Prop := Claim7.holds Tryd.pinned (.plain (OpenSpec.ofChange signNotesSpec)) signNotesCard

/-- THE TIED CARD OF 'notarylaw28.SignHolds'. -/
def signHoldsCard : Claim7 := { stood := { row := signHoldsRow, standIns := [], harness := (true, "da6d707002f447ab700cac539661cc6b898ab82d6049dbbe8068a1092b743e3c"), looks := true }, kinds := [], alts := [], laidByText := true, laidKinds := [.data, .data, .data], laidTests := true, laidLooks := .later }
def SignHoldsCardSaid : Prop := Claim7.holds Tryd.pinned (.plain (OpenSpec.ofChange signHoldsSpec)) signHoldsCard

/-- THE TIED CARD OF 'notarylaw28.SignJoins'. -/
def signJoinsCard : Claim7 := { stood := { row := signJoinsRow, standIns := [], harness := (true, "da6d707002f447ab700cac539661cc6b898ab82d6049dbbe8068a1092b743e3c"), looks := true }, kinds := [], alts := [], laidByText := true, laidKinds := [.data, .data, .data], laidTests := true, laidLooks := .later }
def SignJoinsCardSaid : Prop := Claim7.holds Tryd.pinned (.plain (OpenSpec.ofChange signJoinsSpec)) signJoinsCard

/-- THE TIED CARD OF 'notarylaw28.SignTexts'. -/
def signTextsCard : Claim7 := { stood := { row := signTextsRow, standIns := [], harness := (true, "da6d707002f447ab700cac539661cc6b898ab82d6049dbbe8068a1092b743e3c"), looks := true }, kinds := [], alts := [], laidByText := true, laidKinds := [.data, .data, .data, .sentinel, .sentinel], laidTests := true, laidLooks := .later }
def SignTextsCardSaid : Prop := Claim7.holds Tryd.pinned (.plain (OpenSpec.ofChange signTextsSpec)) signTextsCard

/-- THE SECOND FORM's CARD OF 'notarylaw28.SignMacs'. -/
def signMacsUptoCard : Claim7 := { stood := { row := signMacsUptoRow, standIns := [], harness := (true, "da6d707002f447ab700cac539661cc6b898ab82d6049dbbe8068a1092b743e3c"), looks := true }, kinds := [], alts := [], laidByText := true, laidKinds := [.data, .data, .data], laidTests := true, laidLooks := .later }
def SignMacsUptoCardSaid : Prop := Claim7.holds Tryd.pinned (.plain (OpenSpec.upto signMacsSpec)) signMacsUptoCard

/-- THE SECOND FORM's CARD OF 'notarylaw28.SignNames'. -/
def signNamesUptoCard : Claim7 := { stood := { row := signNamesUptoRow, standIns := [], harness := (true, "da6d707002f447ab700cac539661cc6b898ab82d6049dbbe8068a1092b743e3c"), looks := true }, kinds := [], alts := [], laidByText := true, laidKinds := [.data, .data, .data], laidTests := true, laidLooks := .later }
def SignNamesUptoCardSaid : Prop := Claim7.holds Tryd.pinned (.plain (OpenSpec.upto signNamesSpec)) signNamesUptoCard

/-- THE SECOND FORM's CARD OF 'notarylaw28.SignNotes'. -/
def signNotesUptoCard : Claim7 := { stood := { row := signNotesUptoRow, standIns := [], harness := (true, "da6d707002f447ab700cac539661cc6b898ab82d6049dbbe8068a1092b743e3c"), looks := true }, kinds := [], alts := [], laidByText := true, laidKinds := [.data, .data, .data], laidTests := true, laidLooks := .later }
def SignNotesUptoCardSaid : Prop := Claim7.holds Tryd.pinned (.plain (OpenSpec.upto signNotesSpec)) signNotesUptoCard

/-- THE SECOND FORM's CARD OF 'notarylaw28.SignHolds'. -/
def signHoldsUptoCard : Claim7 := { stood := { row := signHoldsUptoRow, standIns := [], harness := (true, "da6d707002f447ab700cac539661cc6b898ab82d6049dbbe8068a1092b743e3c"), looks := true }, kinds := [], alts := [], laidByText := true, laidKinds := [.data, .data, .data], laidTests := true, laidLooks := .later }
def SignHoldsUptoCardSaid : Prop := Claim7.holds Tryd.pinned (.plain (OpenSpec.upto signHoldsSpec)) signHoldsUptoCard

/-- THE SECOND FORM's CARD OF 'notarylaw28.SignJoins'. -/
def signJoinsUptoCard : Claim7 := { stood := { row := signJoinsUptoRow, standIns := [], harness := (true, "da6d707002f447ab700cac539661cc6b898ab82d6049dbbe8068a1092b743e3c"), looks := true }, kinds := [], alts := [], laidByText := true, laidKinds := [.data, .data, .data], laidTests := true, laidLooks := .later }
def SignJoinsUptoCardSaid : Prop := Claim7.holds Tryd.pinned (.plain (OpenSpec.upto signJoinsSpec)) signJoinsUptoCard

/-- THE SECOND FORM's CARD OF 'notarylaw28.SignTexts'. -/
def signTextsUptoCard : Claim7 := { stood := { row := signTextsUptoRow, standIns := [], harness := (true, "da6d707002f447ab700cac539661cc6b898ab82d6049dbbe8068a1092b743e3c"), looks := true }, kinds := [], alts := [], laidByText := true, laidKinds := [.data, .data, .data, .sentinel, .sentinel], laidTests := true, laidLooks := .later }
def SignTextsUptoCardSaid : Prop := Claim7.holds Tryd.pinned (.plain (OpenSpec.upto signTextsSpec)) signTextsUptoCard
end Rows
end Go.Proofs.YtapboamjpilckaaDoor
