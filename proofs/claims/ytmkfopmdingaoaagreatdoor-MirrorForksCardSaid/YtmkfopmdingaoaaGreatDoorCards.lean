/-
  DERIVED. GIVEN WITH THE SEED: THE CARDS: each row of YtmkfopmdingaoaaGreatDoorRows.lean that lists a variable, with what it lists TIED to the program's text (the seventh form; the later family's looks); each row that meets fmt, with fmt's text TOLD by the authors' own Lean function (tested against real Go, not proved from fmt's source: count such statements apart). THE CARD IS WHAT COUNTS. Prove the row's statement (the work); the ties are given (YtmkfopmdingaoaaGreatDoorTie.lean); close each card by the builder's one call (the guide's Derived/Test/ToyasCard.lean, 'card_holds'). Laid BY PROGRAM, IN A SANDBOX (cutbox-door.mjs). By AI agents, Wed Nov 11 2026. No macro, syntax, notation, axiom, sorry.
-/
import Derived.Test.YtmkfopmdingaoaaGreatDoorRows
import GoSem.ClaimSeven
namespace Go.Proofs.YtmkfopmdingaoaaGreatDoor
namespace Rows

/-- THE TIED CARD OF 'notarylaw30.MirrorForks'. -/
def mirrorForksCard : Claim7 := { stood := { row := mirrorForksRow, standIns := [], harness := (true, "c7289df20e47f674d99cb1de2485fc7125d8f31640a025b8ebb43b51b5ac5cae"), looks := false }, kinds := [], alts := [], laidByText := true, laidKinds := [.data, .data, .data], laidTests := true, laidLooks := .later }
def MirrorForksCardSaid : Prop := Claim7.holds Tryz.pinned (.plain (OpenSpec.ofChange mirrorForksSpec)) mirrorForksCard

/-- THE TIED CARD OF 'notarylaw30.MirrorFollows'. -/
def mirrorFollowsCard : Claim7 := { stood := { row := mirrorFollowsRow, standIns := [], harness := (true, "c7289df20e47f674d99cb1de2485fc7125d8f31640a025b8ebb43b51b5ac5cae"), looks := false }, kinds := [], alts := [], laidByText := true, laidKinds := [.data, .data, .data], laidTests := true, laidLooks := .later }
def MirrorFollowsCardSaid : Prop := Claim7.holds Tryz.pinned (.plain (OpenSpec.ofChange mirrorFollowsSpec)) mirrorFollowsCard

/-- THE TIED CARD OF 'notarylaw30.MirrorPlays'. -/
def mirrorPlaysCard : Claim7 := { stood := { row := mirrorPlaysRow, standIns := [], harness := (true, "c7289df20e47f674d99cb1de2485fc7125d8f31640a025b8ebb43b51b5ac5cae"), looks := false }, kinds := [], alts := [], laidByText := true, laidKinds := [.data, .data, .data], laidTests := true, laidLooks := .later }
def MirrorPlaysCardSaid : Prop := Claim7.holds Tryz.pinned (.plain (OpenSpec.ofChange mirrorPlaysSpec)) mirrorPlaysCard

/-- THE TIED CARD OF 'notarylaw30.MirrorNil'. -/
def mirrorNilCard : Claim7 := { stood := { row := mirrorNilRow, standIns := [], harness := (true, "c7289df20e47f674d99cb1de2485fc7125d8f31640a025b8ebb43b51b5ac5cae"), looks := false }, kinds := [], alts := [], laidByText := true, laidKinds := [.data, .data, .data], laidTests := true, laidLooks := .later }
def MirrorNilCardSaid : Prop := Claim7.holds Tryz.pinned (.plain (OpenSpec.ofChange mirrorNilSpec)) mirrorNilCard

/-- THE SECOND FORM's CARD OF 'notarylaw30.MirrorForks'. -/
def mirrorForksUptoCard : Claim7 := { stood := { row := mirrorForksUptoRow, standIns := [], harness := (true, "c7289df20e47f674d99cb1de2485fc7125d8f31640a025b8ebb43b51b5ac5cae"), looks := false }, kinds := [], alts := [], laidByText := true, laidKinds := [.data, .data, .data], laidTests := true, laidLooks := .later }
def MirrorForksUptoCardSaid : Prop := Claim7.holds Tryz.pinned (.plain (OpenSpec.upto mirrorForksSpec)) mirrorForksUptoCard

/-- THE SECOND FORM's CARD OF 'notarylaw30.MirrorFollows'. -/
def mirrorFollowsUptoCard : Claim7 := { stood := { row := mirrorFollowsUptoRow, standIns := [], harness := (true, "c7289df20e47f674d99cb1de2485fc7125d8f31640a025b8ebb43b51b5ac5cae"), looks := false }, kinds := [], alts := [], laidByText := true, laidKinds := [.data, .data, .data], laidTests := true, laidLooks := .later }
def MirrorFollowsUptoCardSaid : Prop := Claim7.holds Tryz.pinned (.plain (OpenSpec.upto mirrorFollowsSpec)) mirrorFollowsUptoCard

/-- THE SECOND FORM's CARD OF 'notarylaw30.MirrorPlays'. -/
def mirrorPlaysUptoCard : Claim7 := { stood := { row := mirrorPlaysUptoRow, standIns := [], harness := (true, "c7289df20e47f674d99cb1de2485fc7125d8f31640a025b8ebb43b51b5ac5cae"), looks := false }, kinds := [], alts := [], laidByText := true, laidKinds := [.data, .data, .data], laidTests := true, laidLooks := .later }
def MirrorPlaysUptoCardSaid : Prop := Claim7.holds Tryz.pinned (.plain (OpenSpec.upto mirrorPlaysSpec)) mirrorPlaysUptoCard

/-- THE SECOND FORM's CARD OF 'notarylaw30.MirrorNil'. -/
def mirrorNilUptoCard : Claim7 := { stood := { row := mirrorNilUptoRow, standIns := [], harness := (true, "c7289df20e47f674d99cb1de2485fc7125d8f31640a025b8ebb43b51b5ac5cae"), looks := false }, kinds := [], alts := [], laidByText := true, laidKinds := [.data, .data, .data], laidTests := true, laidLooks := .later }
def MirrorNilUptoCardSaid : Prop := Claim7.holds Tryz.pinned (.plain (OpenSpec.upto mirrorNilSpec)) mirrorNilUptoCard
end Rows
end Go.Proofs.YtmkfopmdingaoaaGreatDoor
