/-
  DERIVED. GIVEN WITH THE SEED: THE CARDS: each row of YtolfckhjfadhdaaDoorRows.lean that lists a variable, with what it lists TIED to the program's text (the seventh form; the later family's looks); each row that meets fmt, with fmt's text TOLD by the authors' own Lean function (tested against real Go, not proved from fmt's source: count such statements apart). THE CARD IS WHAT COUNTS. Prove the row's statement (the work); the ties are given (YtolfckhjfadhdaaDoorTie.lean); close each card by the builder's one call (the guide's Derived/Test/ToyasCard.lean, 'card_holds'). Laid BY PROGRAM, IN A SANDBOX (cutbox-door.mjs). By AI agents, Wed Nov 11 2026. No macro, syntax, notation, axiom, sorry.
-/
import Derived.Test.YtolfckhjfadhdaaDoorRows
import GoSem.ClaimSeven
namespace Go.Proofs.YtolfckhjfadhdaaDoor
namespace Rows

/-- THE TIED CARD OF 'notarylaw19.PointParses'. -/
def pointParsesCard : Claim7 := { stood := { row := pointParsesRow, standIns := [], harness := (true, "03530e41142baedf85305b7870d845f0f25d1116351df5d049e1bf519578b190"), looks := true }, kinds := [], alts := [], laidByText := true, laidKinds := [.data, .data, .data, .sentinel, .sentinel], laidTests := true, laidLooks := .later }
def PointParsesCardSaid : Prop := Claim7.holds Tryd.pinned (.plain (OpenSpec.ofChange pointParsesSpec)) pointParsesCard

/-- THE TIED CARD OF 'notarylaw19.PointNames'. -/
def pointNamesCard : Claim7 := { stood := { row := pointNamesRow, standIns := [], harness := (true, "03530e41142baedf85305b7870d845f0f25d1116351df5d049e1bf519578b190"), looks := true }, kinds := [], alts := [], laidByText := true, laidKinds := [.data, .data, .data, .sentinel, .sentinel], laidTests := true, laidLooks := .later }
def PointNamesCardSaid : Prop := Claim7.holds Tryd.pinned (.plain (OpenSpec.ofChange pointNamesSpec)) pointNamesCard

/-- THE TIED CARD OF 'notarylaw19.PointOrders'. -/
def pointOrdersCard : Claim7 := { stood := { row := pointOrdersRow, standIns := [], harness := (true, "03530e41142baedf85305b7870d845f0f25d1116351df5d049e1bf519578b190"), looks := true }, kinds := [], alts := [], laidByText := true, laidKinds := [.data, .data, .data, .sentinel, .sentinel], laidTests := true, laidLooks := .later }
def PointOrdersCardSaid : Prop := Claim7.holds Tryd.pinned (.plain (OpenSpec.ofChange pointOrdersSpec)) pointOrdersCard

/-- THE TIED CARD OF 'notarylaw19.PointPuts'. -/
def pointPutsCard : Claim7 := { stood := { row := pointPutsRow, standIns := [], harness := (true, "03530e41142baedf85305b7870d845f0f25d1116351df5d049e1bf519578b190"), looks := true }, kinds := [], alts := [], laidByText := true, laidKinds := [.data, .data, .data, .sentinel, .sentinel], laidTests := true, laidLooks := .later }
def PointPutsCardSaid : Prop := Claim7.holds Tryd.pinned (.plain (OpenSpec.ofChange pointPutsSpec)) pointPutsCard

/-- THE TIED CARD OF 'notarylaw19.PointReads'. -/
def pointReadsCard : Claim7 := { stood := { row := pointReadsRow, standIns := [], harness := (true, "03530e41142baedf85305b7870d845f0f25d1116351df5d049e1bf519578b190"), looks := true }, kinds := [], alts := [], laidByText := true, laidKinds := [.data, .data, .data, .sentinel, .sentinel], laidTests := true, laidLooks := .later }
def PointReadsCardSaid : Prop := Claim7.holds Tryd.pinned (.plain (OpenSpec.ofChange pointReadsSpec)) pointReadsCard

/-- THE TIED CARD OF 'notarylaw19.PointTurned'. -/
def pointTurnedCard : Claim7 := { stood := { row := pointTurnedRow, standIns := [], harness := (true, "03530e41142baedf85305b7870d845f0f25d1116351df5d049e1bf519578b190"), looks := true }, kinds := [], alts := [], laidByText := true, laidKinds := [.data, .data, .data, .sentinel, .sentinel], laidTests := true, laidLooks := .later }
def PointTurnedCardSaid : Prop := Claim7.holds Tryd.pinned (.plain (OpenSpec.ofChange pointTurnedSpec)) pointTurnedCard

/-- THE SECOND FORM's CARD OF 'notarylaw19.PointParses'. -/
def pointParsesUptoCard : Claim7 := { stood := { row := pointParsesUptoRow, standIns := [], harness := (true, "03530e41142baedf85305b7870d845f0f25d1116351df5d049e1bf519578b190"), looks := true }, kinds := [], alts := [], laidByText := true, laidKinds := [.data, .data, .data, .sentinel, .sentinel], laidTests := true, laidLooks := .later }
def PointParsesUptoCardSaid : Prop := Claim7.holds Tryd.pinned (.plain (OpenSpec.upto pointParsesSpec)) pointParsesUptoCard

/-- THE SECOND FORM's CARD OF 'notarylaw19.PointNames'. -/
def pointNamesUptoCard : Claim7 := { stood := { row := pointNamesUptoRow, standIns := [], harness := (true, "03530e41142baedf85305b7870d845f0f25d1116351df5d049e1bf519578b190"), looks := true }, kinds := [], alts := [], laidByText := true, laidKinds := [.data, .data, .data, .sentinel, .sentinel], laidTests := true, laidLooks := .later }
def PointNamesUptoCardSaid : Prop := Claim7.holds Tryd.pinned (.plain (OpenSpec.upto pointNamesSpec)) pointNamesUptoCard

/-- THE SECOND FORM's CARD OF 'notarylaw19.PointOrders'. -/
def pointOrdersUptoCard : Claim7 := { stood := { row := pointOrdersUptoRow, standIns := [], harness := (true, "03530e41142baedf85305b7870d845f0f25d1116351df5d049e1bf519578b190"), looks := true }, kinds := [], alts := [], laidByText := true, laidKinds := [.data, .data, .data, .sentinel, .sentinel], laidTests := true, laidLooks := .later }
def PointOrdersUptoCardSaid : Prop := Claim7.holds Tryd.pinned (.plain (OpenSpec.upto pointOrdersSpec)) pointOrdersUptoCard

/-- THE SECOND FORM's CARD OF 'notarylaw19.PointPuts'. -/
def pointPutsUptoCard : Claim7 := { stood := { row := pointPutsUptoRow, standIns := [], harness := (true, "03530e41142baedf85305b7870d845f0f25d1116351df5d049e1bf519578b190"), looks := true }, kinds := [], alts := [], laidByText := true, laidKinds := [.data, .data, .data, .sentinel, .sentinel], laidTests := true, laidLooks := .later }
def PointPutsUptoCardSaid : Prop := Claim7.holds Tryd.pinned (.plain (OpenSpec.upto pointPutsSpec)) pointPutsUptoCard

/-- THE SECOND FORM's CARD OF 'notarylaw19.PointReads'. -/
def pointReadsUptoCard : Claim7 := { stood := { row := pointReadsUptoRow, standIns := [], harness := (true, "03530e41142baedf85305b7870d845f0f25d1116351df5d049e1bf519578b190"), looks := true }, kinds := [], alts := [], laidByText := true, laidKinds := [.data, .data, .data, .sentinel, .sentinel], laidTests := true, laidLooks := .later }
def PointReadsUptoCardSaid : Prop := Claim7.holds Tryd.pinned (.plain (OpenSpec.upto pointReadsSpec)) pointReadsUptoCard

/-- THE SECOND FORM's CARD OF 'notarylaw19.PointTurned'. -/
def pointTurnedUptoCard : Claim7 := { stood := { row := pointTurnedUptoRow, standIns := [], harness := (true, "03530e41142baedf85305b7870d845f0f25d1116351df5d049e1bf519578b190"), looks := true }, kinds := [], alts := [], laidByText := true, laidKinds := [.data, .data, .data, .sentinel, .sentinel], laidTests := true, laidLooks := .later }
def PointTurnedUptoCardSaid : Prop := Claim7.holds Tryd.pinned (.plain (OpenSpec.upto pointTurnedSpec)) pointTurnedUptoCard
end Rows
end Go.Proofs.YtolfckhjfadhdaaDoor
