/-
  No cell of these rows narrows 'for every input' (looked for: loops, veiled, ifaces, maps, wideKeys, modest, calm, conditions, laid).
  DERIVED. THE GIVEN ROWS OF THIS SEAT. 7 by the template 'for every input the law returns true; each argument reads behind the call as it read before'; 0 by the template 'total and deterministic' (their statements: YtdmdnphbheomoaaTotals.lean).
  GIVEN WITH THE SEED: the statements are not yours to turn. If you find one false, say at which input.
  Laid BY PROGRAM, IN A SANDBOX (cutbox-rows.mjs): the forced cells as the released guide's own fill.sh prints them over the translation 02e4b87f420c19e8… (all of the seat's roots in one cut). By AI agents, Wed Nov 11 2026. No macro, syntax, notation, axiom, sorry.
-/
import Derived.Test.YtdmdnphbheomoaaChecked
import GoSem.Claim
import GoSem.ClaimJoined
import GoSem.ClaimMapViews
import Derived.JoinedTies
import Derived.KernelRfl
namespace Go.Proofs.Ytdmdnphbheomoaa
/- THE CELL 'sum', in the pinned program and in every row, IS THE sha256 OF THE DUMP (.gsa) THAT YtdmdnphbheomoaaProg.lean LOADS. Nothing in Lean hashes anything: it is a label: what it is worth is what the hold of that sum in a sandbox is worth. -/
noncomputable def Try.pinned : Pinned := { name := "ytdmdnphbheomoaa", sum := "02e4b87f420c19e8f2797bf4ac7803b508bd7d8b51440f511a4d85124ae85d44", checked := Try.checked }
namespace Rows
def none {H : Type} : Left H := { results := [], args := [] }

/-- 'notarylaw15.EntryPuts': WHATEVER THE INPUT: true; the input reads as it did. -/
def entryPutsSpec : ChangeSpec := { name := "entryPuts", fn := fun _ => fun
  | [d1, d2, d3] => { results := [.lit (.bool true)], args := [d1, d2, d3] }
  | _ => none }
def entryPutsRow : OpenClaim := { program := "ytdmdnphbheomoaa", sum := "02e4b87f420c19e8f2797bf4ac7803b508bd7d8b51440f511a4d85124ae85d44", func := "notary/notarylaw15.EntryPuts", spec := "entryPuts", unfollowed := true, recurses := true, apart := false }
def EntryPutsSaid : Prop := entryPutsRow.holds Try.pinned (OpenSpec.ofChange entryPutsSpec)

/-- ITS FALSE NEIGHBOUR: 'it returns false'. Refute it at one input. -/
def entryPutsWrong : ChangeSpec := { name := "entryPuts", fn := fun _ => fun
  | [d1, d2, d3] => { results := [.lit (.bool false)], args := [d1, d2, d3] }
  | _ => none }
def EntryPutsWrongFalsely : Prop := entryPutsRow.holds Try.pinned (OpenSpec.ofChange entryPutsWrong)

/-- 'notarylaw15.EntryReads': WHATEVER THE INPUT: true; the input reads as it did. -/
def entryReadsSpec : ChangeSpec := { name := "entryReads", fn := fun _ => fun
  | [d] => { results := [.lit (.bool true)], args := [d] }
  | _ => none }
def entryReadsRow : OpenClaim := { program := "ytdmdnphbheomoaa", sum := "02e4b87f420c19e8f2797bf4ac7803b508bd7d8b51440f511a4d85124ae85d44", func := "notary/notarylaw15.EntryReads", spec := "entryReads", unfollowed := true, recurses := true, apart := false }
def EntryReadsSaid : Prop := entryReadsRow.holds Try.pinned (OpenSpec.ofChange entryReadsSpec)

/-- ITS FALSE NEIGHBOUR: 'it returns false'. Refute it at one input. -/
def entryReadsWrong : ChangeSpec := { name := "entryReads", fn := fun _ => fun
  | [d] => { results := [.lit (.bool false)], args := [d] }
  | _ => none }
def EntryReadsWrongFalsely : Prop := entryReadsRow.holds Try.pinned (OpenSpec.ofChange entryReadsWrong)

/-- 'notarylaw15.EntryTexts': WHATEVER THE INPUT: true; the input reads as it did. -/
def entryTextsSpec : ChangeSpec := { name := "entryTexts", fn := fun _ => fun
  | [d1, d2] => { results := [.lit (.bool true)], args := [d1, d2] }
  | _ => none }
def entryTextsRow : OpenClaim := { program := "ytdmdnphbheomoaa", sum := "02e4b87f420c19e8f2797bf4ac7803b508bd7d8b51440f511a4d85124ae85d44", func := "notary/notarylaw15.EntryTexts", spec := "entryTexts", inPlace := ["internal/bytealg.IndexByteString"], unfollowed := true, recurses := true, apart := false }
def EntryTextsSaid : Prop := entryTextsRow.holds Try.pinned (OpenSpec.ofChange entryTextsSpec)

/-- ITS FALSE NEIGHBOUR: 'it returns false'. Refute it at one input. -/
def entryTextsWrong : ChangeSpec := { name := "entryTexts", fn := fun _ => fun
  | [d1, d2] => { results := [.lit (.bool false)], args := [d1, d2] }
  | _ => none }
def EntryTextsWrongFalsely : Prop := entryTextsRow.holds Try.pinned (OpenSpec.ofChange entryTextsWrong)

/-- 'notarylaw15.EntryBack': WHATEVER THE INPUT: true; the input reads as it did. -/
def entryBackSpec : ChangeSpec := { name := "entryBack", fn := fun _ => fun
  | [d1, d2, d3] => { results := [.lit (.bool true)], args := [d1, d2, d3] }
  | _ => none }
def entryBackRow : OpenClaim := { program := "ytdmdnphbheomoaa", sum := "02e4b87f420c19e8f2797bf4ac7803b508bd7d8b51440f511a4d85124ae85d44", func := "notary/notarylaw15.EntryBack", spec := "entryBack", unfollowed := true, recurses := true, apart := false }
def EntryBackSaid : Prop := entryBackRow.holds Try.pinned (OpenSpec.ofChange entryBackSpec)

/-- ITS FALSE NEIGHBOUR: 'it returns false'. Refute it at one input. -/
def entryBackWrong : ChangeSpec := { name := "entryBack", fn := fun _ => fun
  | [d1, d2, d3] => { results := [.lit (.bool false)], args := [d1, d2, d3] }
  | _ => none }
def EntryBackWrongFalsely : Prop := entryBackRow.holds Try.pinned (OpenSpec.ofChange entryBackWrong)

/-- 'notarylaw15.EntryEach': WHATEVER THE INPUT: true; the input reads as it did. -/
def entryEachSpec : ChangeSpec := { name := "entryEach", fn := fun _ => fun
  | [d1, d2] => { results := [.lit (.bool true)], args := [d1, d2] }
  | _ => none }
def entryEachRow : OpenClaim := { program := "ytdmdnphbheomoaa", sum := "02e4b87f420c19e8f2797bf4ac7803b508bd7d8b51440f511a4d85124ae85d44", func := "notary/notarylaw15.EntryEach", spec := "entryEach", unfollowed := true, recurses := true, apart := false }
def EntryEachSaid : Prop := entryEachRow.holds Try.pinned (OpenSpec.ofChange entryEachSpec)

/-- ITS FALSE NEIGHBOUR: 'it returns false'. Refute it at one input. -/
def entryEachWrong : ChangeSpec := { name := "entryEach", fn := fun _ => fun
  | [d1, d2] => { results := [.lit (.bool false)], args := [d1, d2] }
  | _ => none }
def EntryEachWrongFalsely : Prop := entryEachRow.holds Try.pinned (OpenSpec.ofChange entryEachWrong)

/-- 'notarylaw15.EntryCuts': WHATEVER THE INPUT: true; the input reads as it did. -/
def entryCutsSpec : ChangeSpec := { name := "entryCuts", fn := fun _ => fun
  | [d1, d2, d3] => { results := [.lit (.bool true)], args := [d1, d2, d3] }
  | _ => none }
def entryCutsRow : OpenClaim := { program := "ytdmdnphbheomoaa", sum := "02e4b87f420c19e8f2797bf4ac7803b508bd7d8b51440f511a4d85124ae85d44", func := "notary/notarylaw15.EntryCuts", spec := "entryCuts", unfollowed := true, recurses := true, apart := false }
def EntryCutsSaid : Prop := entryCutsRow.holds Try.pinned (OpenSpec.ofChange entryCutsSpec)

/-- ITS FALSE NEIGHBOUR: 'it returns false'. Refute it at one input. -/
def entryCutsWrong : ChangeSpec := { name := "entryCuts", fn := fun _ => fun
  | [d1, d2, d3] => { results := [.lit (.bool false)], args := [d1, d2, d3] }
  | _ => none }
def EntryCutsWrongFalsely : Prop := entryCutsRow.holds Try.pinned (OpenSpec.ofChange entryCutsWrong)

/-- 'notarylaw15.EntryCut': WHATEVER THE INPUT: true; the input reads as it did. -/
def entryCutSpec : ChangeSpec := { name := "entryCut", fn := fun _ => fun
  | [d1, d2] => { results := [.lit (.bool true)], args := [d1, d2] }
  | _ => none }
def entryCutRow : OpenClaim := { program := "ytdmdnphbheomoaa", sum := "02e4b87f420c19e8f2797bf4ac7803b508bd7d8b51440f511a4d85124ae85d44", func := "notary/notarylaw15.EntryCut", spec := "entryCut", inPlace := ["internal/bytealg.IndexByteString"], unfollowed := true, recurses := true, apart := false }
def EntryCutSaid : Prop := entryCutRow.holds Try.pinned (OpenSpec.ofChange entryCutSpec)

/-- ITS FALSE NEIGHBOUR: 'it returns false'. Refute it at one input. -/
def entryCutWrong : ChangeSpec := { name := "entryCut", fn := fun _ => fun
  | [d1, d2] => { results := [.lit (.bool false)], args := [d1, d2] }
  | _ => none }
def EntryCutWrongFalsely : Prop := entryCutRow.holds Try.pinned (OpenSpec.ofChange entryCutWrong)

/- THE SECOND FORM. 'bulk': how many values and letters a reading holds, each counted each time it is reached (what is shared counts as often as it is met; a slice's spare places count too). A statement '..UptoSaid' is the law's where the arguments, and the package variables that the reading takes, are together of bulk at most 1048576: NARROWER than '..Said'. Prove '..Said' where nothing that the law and all that it calls make is longer than what came in: it says more and counts as full. Else prove '..UptoSaid'. A law counts once. -/
mutual
def uptoBulk {H : Type} : DataW H → Nat
  | .lit (.string bytes) => bytes.length + 1
  | .lit _ => 1
  | .nil => 1
  | .ptr d => uptoBulk d + 1
  | .slice elems spare => uptoBulkAll elems + uptoBulkAll spare + 1
  | .agg parts => uptoBulkAll parts + 1
  | .iface _ d => uptoBulk d + 1
  | .map entries => uptoBulkEntries entries + 1
  | .held _ => 1
def uptoBulkAll {H : Type} : List (DataW H) → Nat
  | [] => 0
  | d :: r => uptoBulk d + uptoBulkAll r
def uptoBulkEntries {H : Type} : List (Lit × DataW H) → Nat
  | [] => 0
  | x :: r => uptoBulkEntry x + uptoBulkEntries r
def uptoBulkEntry {H : Type} : Lit × DataW H → Nat
  | (.string bytes, d) => bytes.length + uptoBulk d + 1
  | (_, d) => uptoBulk d + 1
 end
def uptoSmall : (H : Type) → List (DataW H) → Bool := fun _ ds => decide (uptoBulkAll ds ≤ 1048576)
def OpenSpec.upto (s : _root_.Go.ChangeSpec) : _root_.Go.OpenSpec := { _root_.Go.OpenSpec.ofChange s with cond := some uptoSmall }

/-- 'notarylaw15.EntryPuts', WHERE WHAT IT READS IS OF BULK AT MOST 1048576: true; the input reads as it did. -/
def entryPutsUptoRow : OpenClaim := { program := "ytdmdnphbheomoaa", sum := "02e4b87f420c19e8f2797bf4ac7803b508bd7d8b51440f511a4d85124ae85d44", func := "notary/notarylaw15.EntryPuts", spec := "entryPuts", unfollowed := true, recurses := true, apart := false, narrowed := true }
def EntryPutsUptoSaid : Prop := entryPutsUptoRow.holds Try.pinned (OpenSpec.upto entryPutsSpec)

/-- 'notarylaw15.EntryReads', WHERE WHAT IT READS IS OF BULK AT MOST 1048576: true; the input reads as it did. -/
def entryReadsUptoRow : OpenClaim := { program := "ytdmdnphbheomoaa", sum := "02e4b87f420c19e8f2797bf4ac7803b508bd7d8b51440f511a4d85124ae85d44", func := "notary/notarylaw15.EntryReads", spec := "entryReads", unfollowed := true, recurses := true, apart := false, narrowed := true }
def EntryReadsUptoSaid : Prop := entryReadsUptoRow.holds Try.pinned (OpenSpec.upto entryReadsSpec)

/-- 'notarylaw15.EntryTexts', WHERE WHAT IT READS IS OF BULK AT MOST 1048576: true; the input reads as it did. -/
def entryTextsUptoRow : OpenClaim := { program := "ytdmdnphbheomoaa", sum := "02e4b87f420c19e8f2797bf4ac7803b508bd7d8b51440f511a4d85124ae85d44", func := "notary/notarylaw15.EntryTexts", spec := "entryTexts", inPlace := ["internal/bytealg.IndexByteString"], unfollowed := true, recurses := true, apart := false, narrowed := true }
def EntryTextsUptoSaid : Prop := entryTextsUptoRow.holds Try.pinned (OpenSpec.upto entryTextsSpec)

/-- 'notarylaw15.EntryBack', WHERE WHAT IT READS IS OF BULK AT MOST 1048576: true; the input reads as it did. -/
def entryBackUptoRow : OpenClaim := { program := "ytdmdnphbheomoaa", sum := "02e4b87f420c19e8f2797bf4ac7803b508bd7d8b51440f511a4d85124ae85d44", func := "notary/notarylaw15.EntryBack", spec := "entryBack", unfollowed := true, recurses := true, apart := false, narrowed := true }
def EntryBackUptoSaid : Prop := entryBackUptoRow.holds Try.pinned (OpenSpec.upto entryBackSpec)

/-- 'notarylaw15.EntryEach', WHERE WHAT IT READS IS OF BULK AT MOST 1048576: true; the input reads as it did. -/
def entryEachUptoRow : OpenClaim := { program := "ytdmdnphbheomoaa", sum := "02e4b87f420c19e8f2797bf4ac7803b508bd7d8b51440f511a4d85124ae85d44", func := "notary/notarylaw15.EntryEach", spec := "entryEach", unfollowed := true, recurses := true, apart := false, narrowed := true }
def EntryEachUptoSaid : Prop := entryEachUptoRow.holds Try.pinned (OpenSpec.upto entryEachSpec)

/-- 'notarylaw15.EntryCuts', WHERE WHAT IT READS IS OF BULK AT MOST 1048576: true; the input reads as it did. -/
def entryCutsUptoRow : OpenClaim := { program := "ytdmdnphbheomoaa", sum := "02e4b87f420c19e8f2797bf4ac7803b508bd7d8b51440f511a4d85124ae85d44", func := "notary/notarylaw15.EntryCuts", spec := "entryCuts", unfollowed := true, recurses := true, apart := false, narrowed := true }
def EntryCutsUptoSaid : Prop := entryCutsUptoRow.holds Try.pinned (OpenSpec.upto entryCutsSpec)

/-- 'notarylaw15.EntryCut', WHERE WHAT IT READS IS OF BULK AT MOST 1048576: true; the input reads as it did. -/
def entryCutUptoRow : OpenClaim := { program := "ytdmdnphbheomoaa", sum := "02e4b87f420c19e8f2797bf4ac7803b508bd7d8b51440f511a4d85124ae85d44", func := "notary/notarylaw15.EntryCut", spec := "entryCut", inPlace := ["internal/bytealg.IndexByteString"], unfollowed := true, recurses := true, apart := false, narrowed := true }
def EntryCutUptoSaid : Prop := entryCutUptoRow.holds Try.pinned (OpenSpec.upto entryCutSpec)

end Rows
end Go.Proofs.Ytdmdnphbheomoaa
