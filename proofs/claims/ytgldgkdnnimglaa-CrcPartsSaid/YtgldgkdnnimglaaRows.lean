/-
  No cell of these rows narrows 'for every input' (looked for: loops, veiled, ifaces, maps, wideKeys, modest, calm, conditions, laid).
  DERIVED. THE GIVEN ROWS OF THIS SEAT. 8 by the template 'for every input the law returns true; each argument reads behind the call as it read before'; 0 by the template 'total and deterministic' (their statements: YtgldgkdnnimglaaTotals.lean).
  GIVEN WITH THE SEED: the statements are not yours to turn. If you find one false, say at which input.
  Laid BY PROGRAM, IN A SANDBOX (cutbox-rows.mjs): the forced cells as the released guide's own fill.sh prints them over the translation 87fd37e36b202942… (all of the seat's roots in one cut). By AI agents, Wed Nov 11 2026. No macro, syntax, notation, axiom, sorry.
-/
import Derived.Test.YtgldgkdnnimglaaChecked
import GoSem.Claim
import GoSem.ClaimJoined
import GoSem.ClaimMapViews
import Derived.JoinedTies
import Derived.KernelRfl
namespace Go.Proofs.Ytgldgkdnnimglaa
/- THE CELL 'sum', in the pinned program and in every row, IS THE sha256 OF THE DUMP (.gsa) THAT YtgldgkdnnimglaaProg.lean LOADS. Nothing in Lean hashes anything: it is a label: what it is worth is what the hold of that sum in a sandbox is worth. -/
noncomputable def Try.pinned : Pinned := { name := "ytgldgkdnnimglaa", sum := "87fd37e36b202942e879b554c517a0d555e44cccc711f02231889d2964012124", checked := Try.checked }
namespace Rows
def none {H : Type} : Left H := { results := [], args := [] }

/-- 'notarylaw02.CrcSums': WHATEVER THE INPUT: true; the input reads as it did. -/
def crcSumsSpec : ChangeSpec := { name := "crcSums", fn := fun _ => fun
  | [d1, d2, d3] => { results := [.lit (.bool true)], args := [d1, d2, d3] }
  | _ => none }
def crcSumsRow : OpenClaim := { program := "ytgldgkdnnimglaa", sum := "87fd37e36b202942e879b554c517a0d555e44cccc711f02231889d2964012124", func := "notary/notarylaw02.CrcSums", spec := "crcSums", unfollowed := true, recurses := true, apart := false }
def CrcSumsSaid : Prop := crcSumsRow.holds Try.pinned (OpenSpec.ofChange crcSumsSpec)

/-- ITS FALSE NEIGHBOUR: 'it returns false'. Refute it at one input. -/
def crcSumsWrong : ChangeSpec := { name := "crcSums", fn := fun _ => fun
  | [d1, d2, d3] => { results := [.lit (.bool false)], args := [d1, d2, d3] }
  | _ => none }
def CrcSumsWrongFalsely : Prop := crcSumsRow.holds Try.pinned (OpenSpec.ofChange crcSumsWrong)

/-- 'notarylaw02.CrcCarries': WHATEVER THE INPUT: true; the input reads as it did. -/
def crcCarriesSpec : ChangeSpec := { name := "crcCarries", fn := fun _ => fun
  | [d1, d2, d3] => { results := [.lit (.bool true)], args := [d1, d2, d3] }
  | _ => none }
def crcCarriesRow : OpenClaim := { program := "ytgldgkdnnimglaa", sum := "87fd37e36b202942e879b554c517a0d555e44cccc711f02231889d2964012124", func := "notary/notarylaw02.CrcCarries", spec := "crcCarries", unfollowed := true, recurses := true, apart := false }
def CrcCarriesSaid : Prop := crcCarriesRow.holds Try.pinned (OpenSpec.ofChange crcCarriesSpec)

/-- ITS FALSE NEIGHBOUR: 'it returns false'. Refute it at one input. -/
def crcCarriesWrong : ChangeSpec := { name := "crcCarries", fn := fun _ => fun
  | [d1, d2, d3] => { results := [.lit (.bool false)], args := [d1, d2, d3] }
  | _ => none }
def CrcCarriesWrongFalsely : Prop := crcCarriesRow.holds Try.pinned (OpenSpec.ofChange crcCarriesWrong)

/-- 'notarylaw02.CrcMasks': WHATEVER THE INPUT: true; the input reads as it did. -/
def crcMasksSpec : ChangeSpec := { name := "crcMasks", fn := fun _ => fun
  | [d] => { results := [.lit (.bool true)], args := [d] }
  | _ => none }
def crcMasksRow : OpenClaim := { program := "ytgldgkdnnimglaa", sum := "87fd37e36b202942e879b554c517a0d555e44cccc711f02231889d2964012124", func := "notary/notarylaw02.CrcMasks", spec := "crcMasks", unfollowed := true, recurses := true, apart := false }
def CrcMasksSaid : Prop := crcMasksRow.holds Try.pinned (OpenSpec.ofChange crcMasksSpec)

/-- ITS FALSE NEIGHBOUR: 'it returns false'. Refute it at one input. -/
def crcMasksWrong : ChangeSpec := { name := "crcMasks", fn := fun _ => fun
  | [d] => { results := [.lit (.bool false)], args := [d] }
  | _ => none }
def CrcMasksWrongFalsely : Prop := crcMasksRow.holds Try.pinned (OpenSpec.ofChange crcMasksWrong)

/-- 'notarylaw02.CrcFour': WHATEVER THE INPUT: true; the input reads as it did. -/
def crcFourSpec : ChangeSpec := { name := "crcFour", fn := fun _ => fun
  | [d1, d2, d3] => { results := [.lit (.bool true)], args := [d1, d2, d3] }
  | _ => none }
def crcFourRow : OpenClaim := { program := "ytgldgkdnnimglaa", sum := "87fd37e36b202942e879b554c517a0d555e44cccc711f02231889d2964012124", func := "notary/notarylaw02.CrcFour", spec := "crcFour", unfollowed := true, recurses := true, apart := false }
def CrcFourSaid : Prop := crcFourRow.holds Try.pinned (OpenSpec.ofChange crcFourSpec)

/-- ITS FALSE NEIGHBOUR: 'it returns false'. Refute it at one input. -/
def crcFourWrong : ChangeSpec := { name := "crcFour", fn := fun _ => fun
  | [d1, d2, d3] => { results := [.lit (.bool false)], args := [d1, d2, d3] }
  | _ => none }
def CrcFourWrongFalsely : Prop := crcFourRow.holds Try.pinned (OpenSpec.ofChange crcFourWrong)

/-- 'notarylaw02.CrcPatches': WHATEVER THE INPUT: true; the input reads as it did. -/
def crcPatchesSpec : ChangeSpec := { name := "crcPatches", fn := fun _ => fun
  | [d1, d2, d3] => { results := [.lit (.bool true)], args := [d1, d2, d3] }
  | _ => none }
def crcPatchesRow : OpenClaim := { program := "ytgldgkdnnimglaa", sum := "87fd37e36b202942e879b554c517a0d555e44cccc711f02231889d2964012124", func := "notary/notarylaw02.CrcPatches", spec := "crcPatches", unfollowed := true, recurses := true, apart := false }
def CrcPatchesSaid : Prop := crcPatchesRow.holds Try.pinned (OpenSpec.ofChange crcPatchesSpec)

/-- ITS FALSE NEIGHBOUR: 'it returns false'. Refute it at one input. -/
def crcPatchesWrong : ChangeSpec := { name := "crcPatches", fn := fun _ => fun
  | [d1, d2, d3] => { results := [.lit (.bool false)], args := [d1, d2, d3] }
  | _ => none }
def CrcPatchesWrongFalsely : Prop := crcPatchesRow.holds Try.pinned (OpenSpec.ofChange crcPatchesWrong)

/-- 'notarylaw02.CrcCuts': WHATEVER THE INPUT: true; the input reads as it did. -/
def crcCutsSpec : ChangeSpec := { name := "crcCuts", fn := fun _ => fun
  | [d1, d2] => { results := [.lit (.bool true)], args := [d1, d2] }
  | _ => none }
def crcCutsRow : OpenClaim := { program := "ytgldgkdnnimglaa", sum := "87fd37e36b202942e879b554c517a0d555e44cccc711f02231889d2964012124", func := "notary/notarylaw02.CrcCuts", spec := "crcCuts", unfollowed := true, recurses := true, apart := false }
def CrcCutsSaid : Prop := crcCutsRow.holds Try.pinned (OpenSpec.ofChange crcCutsSpec)

/-- ITS FALSE NEIGHBOUR: 'it returns false'. Refute it at one input. -/
def crcCutsWrong : ChangeSpec := { name := "crcCuts", fn := fun _ => fun
  | [d1, d2] => { results := [.lit (.bool false)], args := [d1, d2] }
  | _ => none }
def CrcCutsWrongFalsely : Prop := crcCutsRow.holds Try.pinned (OpenSpec.ofChange crcCutsWrong)

/-- 'notarylaw02.CrcSolves': WHATEVER THE INPUT: true; the input reads as it did. -/
def crcSolvesSpec : ChangeSpec := { name := "crcSolves", fn := fun _ => fun
  | [d1, d2, d3] => { results := [.lit (.bool true)], args := [d1, d2, d3] }
  | _ => none }
def crcSolvesRow : OpenClaim := { program := "ytgldgkdnnimglaa", sum := "87fd37e36b202942e879b554c517a0d555e44cccc711f02231889d2964012124", func := "notary/notarylaw02.CrcSolves", spec := "crcSolves", unfollowed := true, recurses := true, apart := false }
def CrcSolvesSaid : Prop := crcSolvesRow.holds Try.pinned (OpenSpec.ofChange crcSolvesSpec)

/-- ITS FALSE NEIGHBOUR: 'it returns false'. Refute it at one input. -/
def crcSolvesWrong : ChangeSpec := { name := "crcSolves", fn := fun _ => fun
  | [d1, d2, d3] => { results := [.lit (.bool false)], args := [d1, d2, d3] }
  | _ => none }
def CrcSolvesWrongFalsely : Prop := crcSolvesRow.holds Try.pinned (OpenSpec.ofChange crcSolvesWrong)

/-- 'notarylaw02.CrcParts': WHATEVER THE INPUT: true; the input reads as it did. -/
def crcPartsSpec : ChangeSpec := { name := "crcParts", fn := fun _ => fun
  | [d] => { results := [.lit (.bool true)], args := [d] }
  | _ => none }
def crcPartsRow : OpenClaim := { program := "ytgldgkdnnimglaa", sum := "87fd37e36b202942e879b554c517a0d555e44cccc711f02231889d2964012124", func := "notary/notarylaw02.CrcParts", spec := "crcParts", unfollowed := true, recurses := true, apart := false }
def CrcPartsSaid : Prop := crcPartsRow.holds Try.pinned (OpenSpec.ofChange crcPartsSpec)

/-- ITS FALSE NEIGHBOUR: 'it returns false'. Refute it at one input. -/
def crcPartsWrong : ChangeSpec := { name := "crcParts", fn := fun _ => fun
  | [d] => { results := [.lit (.bool false)], args := [d] }
  | _ => none }
def CrcPartsWrongFalsely : Prop := crcPartsRow.holds Try.pinned (OpenSpec.ofChange crcPartsWrong)

/- THE SECOND FORM. 'bulk': how many values and letters a reading holds, each counted each time it is reached (what is shared counts as often as it is met; a slice's spare places count too). A statement '..UptoSaid' is the law's where the arguments, and the package variables that the reading takes, are together of bulk at most 1048576: NARROWER than '..Said'. Prove '..Said' where nothing that the law and all that it calls make is longer than what came in: it says more and counts as full. Else prove '..UptoSaid'. A law counts once. -/
mutual
def uptoBulk {H : Type} : DataW H → Nat
  | .lit (.string bytes) => bytes.length + 1
  | .lit _ => 1
  | .nil => 1
  | .ptr d => uptoBulk d + 1
  | .slice elems spare => uptoBulkAll elems + uptoBulkAll spare + 1
  | .agg parts => uptoBulkAll parts + 1
  | .iface _ d => uptoBulk d + 1
  | .map entries => uptoBulkEntries entries + 1
  | .held _ => 1
def uptoBulkAll {H : Type} : List (DataW H) → Nat
  | [] => 0
  | d :: r => uptoBulk d + uptoBulkAll r
def uptoBulkEntries {H : Type} : List (Lit × DataW H) → Nat
  | [] => 0
  | x :: r => uptoBulkEntry x + uptoBulkEntries r
def uptoBulkEntry {H : Type} : Lit × DataW H → Nat
  | (.string bytes, d) => bytes.length + uptoBulk d + 1
  | (_, d) => uptoBulk d + 1
 end
def uptoSmall : (H : Type) → List (DataW H) → Bool := fun _ ds => decide (uptoBulkAll ds ≤ 1048576)
def OpenSpec.upto (s : _root_.Go.ChangeSpec) : _root_.Go.OpenSpec := { _root_.Go.OpenSpec.ofChange s with cond := some uptoSmall }

/-- 'notarylaw02.CrcSums', WHERE WHAT IT READS IS OF BULK AT MOST 1048576: true; the input reads as it did. -/
def crcSumsUptoRow : OpenClaim := { program := "ytgldgkdnnimglaa", sum := "87fd37e36b202942e879b554c517a0d555e44cccc711f02231889d2964012124", func := "notary/notarylaw02.CrcSums", spec := "crcSums", unfollowed := true, recurses := true, apart := false, narrowed := true }
def CrcSumsUptoSaid : Prop := crcSumsUptoRow.holds Try.pinned (OpenSpec.upto crcSumsSpec)

/-- 'notarylaw02.CrcCarries', WHERE WHAT IT READS IS OF BULK AT MOST 1048576: true; the input reads as it did. -/
def crcCarriesUptoRow : OpenClaim := { program := "ytgldgkdnnimglaa", sum := "87fd37e36b202942e879b554c517a0d555e44cccc711f02231889d2964012124", func := "notary/notarylaw02.CrcCarries", spec := "crcCarries", unfollowed := true, recurses := true, apart := false, narrowed := true }
def CrcCarriesUptoSaid : Prop := crcCarriesUptoRow.holds Try.pinned (OpenSpec.upto crcCarriesSpec)

/-- 'notarylaw02.CrcMasks', WHERE WHAT IT READS IS OF BULK AT MOST 1048576: true; the input reads as it did. -/
def crcMasksUptoRow : OpenClaim := { program := "ytgldgkdnnimglaa", sum := "87fd37e36b202942e879b554c517a0d555e44cccc711f02231889d2964012124", func := "notary/notarylaw02.CrcMasks", spec := "crcMasks", unfollowed := true, recurses := true, apart := false, narrowed := true }
def CrcMasksUptoSaid : Prop := crcMasksUptoRow.holds Try.pinned (OpenSpec.upto crcMasksSpec)

/-- 'notarylaw02.CrcFour', WHERE WHAT IT READS IS OF BULK AT MOST 1048576: true; the input reads as it did. -/
def crcFourUptoRow : OpenClaim := { program := "ytgldgkdnnimglaa", sum := "87fd37e36b202942e879b554c517a0d555e44cccc711f02231889d2964012124", func := "notary/notarylaw02.CrcFour", spec := "crcFour", unfollowed := true, recurses := true, apart := false, narrowed := true }
def CrcFourUptoSaid : Prop := crcFourUptoRow.holds Try.pinned (OpenSpec.upto crcFourSpec)

/-- 'notarylaw02.CrcPatches', WHERE WHAT IT READS IS OF BULK AT MOST 1048576: true; the input reads as it did. -/
def crcPatchesUptoRow : OpenClaim := { program := "ytgldgkdnnimglaa", sum := "87fd37e36b202942e879b554c517a0d555e44cccc711f02231889d2964012124", func := "notary/notarylaw02.CrcPatches", spec := "crcPatches", unfollowed := true, recurses := true, apart := false, narrowed := true }
def CrcPatchesUptoSaid : Prop := crcPatchesUptoRow.holds Try.pinned (OpenSpec.upto crcPatchesSpec)

/-- 'notarylaw02.CrcCuts', WHERE WHAT IT READS IS OF BULK AT MOST 1048576: true; the input reads as it did. -/
def crcCutsUptoRow : OpenClaim := { program := "ytgldgkdnnimglaa", sum := "87fd37e36b202942e879b554c517a0d555e44cccc711f02231889d2964012124", func := "notary/notarylaw02.CrcCuts", spec := "crcCuts", unfollowed := true, recurses := true, apart := false, narrowed := true }
def CrcCutsUptoSaid : Prop := crcCutsUptoRow.holds Try.pinned (OpenSpec.upto crcCutsSpec)

/-- 'notarylaw02.CrcSolves', WHERE WHAT IT READS IS OF BULK AT MOST 1048576: true; the input reads as it did. -/
def crcSolvesUptoRow : OpenClaim := { program := "ytgldgkdnnimglaa", sum := "87fd37e36b202942e879b554c517a0d555e44cccc711f02231889d2964012124", func := "notary/notarylaw02.CrcSolves", spec := "crcSolves", unfollowed := true, recurses := true, apart := false, narrowed := true }
def CrcSolvesUptoSaid : Prop := crcSolvesUptoRow.holds Try.pinned (OpenSpec.upto crcSolvesSpec)

/-- 'notarylaw02.CrcParts', WHERE WHAT IT READS IS OF BULK AT MOST 1048576: true; the input reads as it did. -/
def crcPartsUptoRow : OpenClaim := { program := "ytgldgkdnnimglaa", sum := "87fd37e36b202942e879b554c517a0d555e44cccc711f02231889d2964012124", func := "notary/notarylaw02.CrcParts", spec := "crcParts", unfollowed := true, recurses := true, apart := false, narrowed := true }
def CrcPartsUptoSaid : Prop := crcPartsUptoRow.holds Try.pinned (OpenSpec.upto crcPartsSpec)

end Rows
end Go.Proofs.Ytgldgkdnnimglaa
