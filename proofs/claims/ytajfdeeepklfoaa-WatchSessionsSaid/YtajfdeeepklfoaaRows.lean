/-
  No cell of these rows narrows 'for every input' (looked for: loops, veiled, ifaces, maps, wideKeys, modest, calm, conditions, laid).
  DERIVED. THE GIVEN ROWS OF THIS SEAT. 11 by the template 'for every input the law returns true; each argument reads behind the call as it read before'; 0 by the template 'total and deterministic' (their statements: YtajfdeeepklfoaaTotals.lean).
  GIVEN WITH THE SEED: the statements are not yours to turn. If you find one false, say at which input.
  Laid BY PROGRAM, IN A SANDBOX (cutbox-rows.mjs): the forced cells as the released guide's own fill.sh prints them over the translation e6be16dfdb63d8b9… (all of the seat's roots in one cut). By AI agents, Wed Nov 11 2026. No macro, syntax, notation, axiom, sorry.
-/
import Derived.Test.YtajfdeeepklfoaaChecked
import GoSem.Claim
import GoSem.ClaimJoined
import GoSem.ClaimMapViews
import Derived.JoinedTies
import Derived.KernelRfl
namespace Go.Proofs.Ytajfdeeepklfoaa
/- THE CELL 'sum', in the pinned program and in every row, IS THE sha256 OF THE DUMP (.gsa) THAT YtajfdeeepklfoaaProg.lean LOADS. Nothing in Lean hashes anything: it is a label: what it is worth is what the hold of that sum in a sandbox is worth. -/
noncomputable def Try.pinned : Pinned := { name := "ytajfdeeepklfoaa", sum := "e6be16dfdb63d8b94f7f74092a6ecd0ddc2f4c84400e1a34a00b25b016933f97", checked := Try.checked }
namespace Rows
def none {H : Type} : Left H := { results := [], args := [] }

/-- 'vedettelaw16.DiffTells': WHATEVER THE INPUT: true; the input reads as it did. -/
def diffTellsSpec : ChangeSpec := { name := "diffTells", fn := fun _ => fun
  | [d1, d2, d3, d4] => { results := [.lit (.bool true)], args := [d1, d2, d3, d4] }
  | _ => none }
def diffTellsRow : OpenClaim := { program := "ytajfdeeepklfoaa", sum := "e6be16dfdb63d8b94f7f74092a6ecd0ddc2f4c84400e1a34a00b25b016933f97", func := "vedette/vedettelaw16.DiffTells", spec := "diffTells", apart := false }
def DiffTellsSaid : Prop := diffTellsRow.holds Try.pinned (OpenSpec.ofChange diffTellsSpec)

/-- ITS FALSE NEIGHBOUR: 'it returns false'. Refute it at one input. -/
def diffTellsWrong : ChangeSpec := { name := "diffTells", fn := fun _ => fun
  | [d1, d2, d3, d4] => { results := [.lit (.bool false)], args := [d1, d2, d3, d4] }
  | _ => none }
def DiffTellsWrongFalsely : Prop := diffTellsRow.holds Try.pinned (OpenSpec.ofChange diffTellsWrong)

/-- 'vedettelaw16.DiffParts': WHATEVER THE INPUT: true; the input reads as it did. -/
def diffPartsSpec : ChangeSpec := { name := "diffParts", fn := fun _ => fun
  | [d1, d2, d3, d4, d5] => { results := [.lit (.bool true)], args := [d1, d2, d3, d4, d5] }
  | _ => none }
def diffPartsRow : OpenClaim := { program := "ytajfdeeepklfoaa", sum := "e6be16dfdb63d8b94f7f74092a6ecd0ddc2f4c84400e1a34a00b25b016933f97", func := "vedette/vedettelaw16.DiffParts", spec := "diffParts", apart := false }
def DiffPartsSaid : Prop := diffPartsRow.holds Try.pinned (OpenSpec.ofChange diffPartsSpec)

/-- ITS FALSE NEIGHBOUR: 'it returns false'. Refute it at one input. -/
def diffPartsWrong : ChangeSpec := { name := "diffParts", fn := fun _ => fun
  | [d1, d2, d3, d4, d5] => { results := [.lit (.bool false)], args := [d1, d2, d3, d4, d5] }
  | _ => none }
def DiffPartsWrongFalsely : Prop := diffPartsRow.holds Try.pinned (OpenSpec.ofChange diffPartsWrong)

/-- 'vedettelaw16.DiffRects': WHATEVER THE INPUT: true; the input reads as it did. -/
def diffRectsSpec : ChangeSpec := { name := "diffRects", fn := fun _ => fun
  | [d1, d2, d3] => { results := [.lit (.bool true)], args := [d1, d2, d3] }
  | _ => none }
def diffRectsRow : OpenClaim := { program := "ytajfdeeepklfoaa", sum := "e6be16dfdb63d8b94f7f74092a6ecd0ddc2f4c84400e1a34a00b25b016933f97", func := "vedette/vedettelaw16.DiffRects", spec := "diffRects", apart := false }
def DiffRectsSaid : Prop := diffRectsRow.holds Try.pinned (OpenSpec.ofChange diffRectsSpec)

/-- ITS FALSE NEIGHBOUR: 'it returns false'. Refute it at one input. -/
def diffRectsWrong : ChangeSpec := { name := "diffRects", fn := fun _ => fun
  | [d1, d2, d3] => { results := [.lit (.bool false)], args := [d1, d2, d3] }
  | _ => none }
def DiffRectsWrongFalsely : Prop := diffRectsRow.holds Try.pinned (OpenSpec.ofChange diffRectsWrong)

/-- 'vedettelaw16.DiffBlind': WHATEVER THE INPUT: true; the input reads as it did. -/
def diffBlindSpec : ChangeSpec := { name := "diffBlind", fn := fun _ => fun
  | [d1, d2, d3] => { results := [.lit (.bool true)], args := [d1, d2, d3] }
  | _ => none }
def diffBlindRow : OpenClaim := { program := "ytajfdeeepklfoaa", sum := "e6be16dfdb63d8b94f7f74092a6ecd0ddc2f4c84400e1a34a00b25b016933f97", func := "vedette/vedettelaw16.DiffBlind", spec := "diffBlind", apart := false }
def DiffBlindSaid : Prop := diffBlindRow.holds Try.pinned (OpenSpec.ofChange diffBlindSpec)

/-- ITS FALSE NEIGHBOUR: 'it returns false'. Refute it at one input. -/
def diffBlindWrong : ChangeSpec := { name := "diffBlind", fn := fun _ => fun
  | [d1, d2, d3] => { results := [.lit (.bool false)], args := [d1, d2, d3] }
  | _ => none }
def DiffBlindWrongFalsely : Prop := diffBlindRow.holds Try.pinned (OpenSpec.ofChange diffBlindWrong)

/-- 'vedettelaw5.CellTells': WHATEVER THE INPUT: true; the input reads as it did. -/
def cellTellsSpec : ChangeSpec := { name := "cellTells", fn := fun _ => fun
  | [d1, d2, d3, d4] => { results := [.lit (.bool true)], args := [d1, d2, d3, d4] }
  | _ => none }
def cellTellsRow : OpenClaim := { program := "ytajfdeeepklfoaa", sum := "e6be16dfdb63d8b94f7f74092a6ecd0ddc2f4c84400e1a34a00b25b016933f97", func := "vedette/vedettelaw5.CellTells", spec := "cellTells", unfollowed := true, recurses := true, apart := false }
def CellTellsSaid : Prop := cellTellsRow.holds Try.pinned (OpenSpec.ofChange cellTellsSpec)

/-- ITS FALSE NEIGHBOUR: 'it returns false'. Refute it at one input. -/
def cellTellsWrong : ChangeSpec := { name := "cellTells", fn := fun _ => fun
  | [d1, d2, d3, d4] => { results := [.lit (.bool false)], args := [d1, d2, d3, d4] }
  | _ => none }
def CellTellsWrongFalsely : Prop := cellTellsRow.holds Try.pinned (OpenSpec.ofChange cellTellsWrong)

/-- 'vedettelaw5.CellWhole': WHATEVER THE INPUT: true; the input reads as it did. -/
def cellWholeSpec : ChangeSpec := { name := "cellWhole", fn := fun _ => fun
  | [d1, d2] => { results := [.lit (.bool true)], args := [d1, d2] }
  | _ => none }
def cellWholeRow : OpenClaim := { program := "ytajfdeeepklfoaa", sum := "e6be16dfdb63d8b94f7f74092a6ecd0ddc2f4c84400e1a34a00b25b016933f97", func := "vedette/vedettelaw5.CellWhole", spec := "cellWhole", unfollowed := true, recurses := true, apart := false }
def CellWholeSaid : Prop := cellWholeRow.holds Try.pinned (OpenSpec.ofChange cellWholeSpec)

/-- ITS FALSE NEIGHBOUR: 'it returns false'. Refute it at one input. -/
def cellWholeWrong : ChangeSpec := { name := "cellWhole", fn := fun _ => fun
  | [d1, d2] => { results := [.lit (.bool false)], args := [d1, d2] }
  | _ => none }
def CellWholeWrongFalsely : Prop := cellWholeRow.holds Try.pinned (OpenSpec.ofChange cellWholeWrong)

/-- 'vedettelaw5.CellNeighbours': WHATEVER THE INPUT: true; the input reads as it did. -/
def cellNeighboursSpec : ChangeSpec := { name := "cellNeighbours", fn := fun _ => fun
  | [d1, d2, d3, d4, d5] => { results := [.lit (.bool true)], args := [d1, d2, d3, d4, d5] }
  | _ => none }
def cellNeighboursRow : OpenClaim := { program := "ytajfdeeepklfoaa", sum := "e6be16dfdb63d8b94f7f74092a6ecd0ddc2f4c84400e1a34a00b25b016933f97", func := "vedette/vedettelaw5.CellNeighbours", spec := "cellNeighbours", unfollowed := true, recurses := true, apart := false }
def CellNeighboursSaid : Prop := cellNeighboursRow.holds Try.pinned (OpenSpec.ofChange cellNeighboursSpec)

/-- ITS FALSE NEIGHBOUR: 'it returns false'. Refute it at one input. -/
def cellNeighboursWrong : ChangeSpec := { name := "cellNeighbours", fn := fun _ => fun
  | [d1, d2, d3, d4, d5] => { results := [.lit (.bool false)], args := [d1, d2, d3, d4, d5] }
  | _ => none }
def CellNeighboursWrongFalsely : Prop := cellNeighboursRow.holds Try.pinned (OpenSpec.ofChange cellNeighboursWrong)

/-- 'vedettelaw5.CellCounts': WHATEVER THE INPUT: true; the input reads as it did. -/
def cellCountsSpec : ChangeSpec := { name := "cellCounts", fn := fun _ => fun
  | [d1, d2, d3, d4] => { results := [.lit (.bool true)], args := [d1, d2, d3, d4] }
  | _ => none }
def cellCountsRow : OpenClaim := { program := "ytajfdeeepklfoaa", sum := "e6be16dfdb63d8b94f7f74092a6ecd0ddc2f4c84400e1a34a00b25b016933f97", func := "vedette/vedettelaw5.CellCounts", spec := "cellCounts", unfollowed := true, recurses := true, apart := false }
def CellCountsSaid : Prop := cellCountsRow.holds Try.pinned (OpenSpec.ofChange cellCountsSpec)

/-- ITS FALSE NEIGHBOUR: 'it returns false'. Refute it at one input. -/
def cellCountsWrong : ChangeSpec := { name := "cellCounts", fn := fun _ => fun
  | [d1, d2, d3, d4] => { results := [.lit (.bool false)], args := [d1, d2, d3, d4] }
  | _ => none }
def CellCountsWrongFalsely : Prop := cellCountsRow.holds Try.pinned (OpenSpec.ofChange cellCountsWrong)

/-- 'vedettelaw14.WatchPlays': WHATEVER THE INPUT: true; the input reads as it did. -/
def watchPlaysSpec : ChangeSpec := { name := "watchPlays", fn := fun _ => fun
  | [d1, d2, d3, d4] => { results := [.lit (.bool true)], args := [d1, d2, d3, d4] }
  | _ => none }
def watchPlaysRow : OpenClaim := { program := "ytajfdeeepklfoaa", sum := "e6be16dfdb63d8b94f7f74092a6ecd0ddc2f4c84400e1a34a00b25b016933f97", func := "vedette/vedettelaw14.WatchPlays", spec := "watchPlays", apart := false }
def WatchPlaysSaid : Prop := watchPlaysRow.holds Try.pinned (OpenSpec.ofChange watchPlaysSpec)

/-- ITS FALSE NEIGHBOUR: 'it returns false'. Refute it at one input. -/
def watchPlaysWrong : ChangeSpec := { name := "watchPlays", fn := fun _ => fun
  | [d1, d2, d3, d4] => { results := [.lit (.bool false)], args := [d1, d2, d3, d4] }
  | _ => none }
def WatchPlaysWrongFalsely : Prop := watchPlaysRow.holds Try.pinned (OpenSpec.ofChange watchPlaysWrong)

/-- 'vedettelaw14.WatchSessions': WHATEVER THE INPUT: true; the input reads as it did. -/
def watchSessionsSpec : ChangeSpec := { name := "watchSessions", fn := fun _ => fun
  | [d1, d2] => { results := [.lit (.bool true)], args := [d1, d2] }
  | _ => none }
def watchSessionsRow : OpenClaim := { program := "ytajfdeeepklfoaa", sum := "e6be16dfdb63d8b94f7f74092a6ecd0ddc2f4c84400e1a34a00b25b016933f97", func := "vedette/vedettelaw14.WatchSessions", spec := "watchSessions", apart := false }
def WatchSessionsSaid : Prop := watchSessionsRow.holds Try.pinned (OpenSpec.ofChange watchSessionsSpec)

/-- ITS FALSE NEIGHBOUR: 'it returns false'. Refute it at one input. -/
def watchSessionsWrong : ChangeSpec := { name := "watchSessions", fn := fun _ => fun
  | [d1, d2] => { results := [.lit (.bool false)], args := [d1, d2] }
  | _ => none }
def WatchSessionsWrongFalsely : Prop := watchSessionsRow.holds Try.pinned (OpenSpec.ofChange watchSessionsWrong)

/-- 'vedettelaw14.WatchTurns': WHATEVER THE INPUT: true; the input reads as it did. -/
def watchTurnsSpec : ChangeSpec := { name := "watchTurns", fn := fun _ => fun
  | [d1, d2, d3, d4, d5] => { results := [.lit (.bool true)], args := [d1, d2, d3, d4, d5] }
  | _ => none }
def watchTurnsRow : OpenClaim := { program := "ytajfdeeepklfoaa", sum := "e6be16dfdb63d8b94f7f74092a6ecd0ddc2f4c84400e1a34a00b25b016933f97", func := "vedette/vedettelaw14.WatchTurns", spec := "watchTurns", apart := false }
def WatchTurnsSaid : Prop := watchTurnsRow.holds Try.pinned (OpenSpec.ofChange watchTurnsSpec)

/-- ITS FALSE NEIGHBOUR: 'it returns false'. Refute it at one input. -/
def watchTurnsWrong : ChangeSpec := { name := "watchTurns", fn := fun _ => fun
  | [d1, d2, d3, d4, d5] => { results := [.lit (.bool false)], args := [d1, d2, d3, d4, d5] }
  | _ => none }
def WatchTurnsWrongFalsely : Prop := watchTurnsRow.holds Try.pinned (OpenSpec.ofChange watchTurnsWrong)

/- THE SECOND FORM. 'bulk': how many values and letters a reading holds, each counted each time it is reached (what is shared counts as often as it is met; a slice's spare places count too). A statement '..UptoSaid' is the law's where the arguments, and the package variables that the reading takes, are together of bulk at most 1048576: NARROWER than '..Said'. Prove '..Said' where nothing that the law and all that it calls make is longer than what came in: it says more and counts as full. Else prove '..UptoSaid'. A law counts once. -/
mutual
def uptoBulk {H : Type} : DataW H → Nat
  | .lit (.string bytes) => bytes.length + 1
  | .lit _ => 1
  | .nil => 1
  | .ptr d => uptoBulk d + 1
  | .slice elems spare => uptoBulkAll elems + uptoBulkAll spare + 1
  | .agg parts => uptoBulkAll parts + 1
  | .iface _ d => uptoBulk d + 1
  | .map entries => uptoBulkEntries entries + 1
  | .held _ => 1
def uptoBulkAll {H : Type} : List (DataW H) → Nat
  | [] => 0
  | d :: r => uptoBulk d + uptoBulkAll r
def uptoBulkEntries {H : Type} : List (Lit × DataW H) → Nat
  | [] => 0
  | x :: r => uptoBulkEntry x + uptoBulkEntries r
def uptoBulkEntry {H : Type} : Lit × DataW H → Nat
  | (.string bytes, d) => bytes.length + uptoBulk d + 1
  | (_, d) => uptoBulk d + 1
 end
def uptoSmall : (H : Type) → List (DataW H) → Bool := fun _ ds => decide (uptoBulkAll ds ≤ 1048576)
def OpenSpec.upto (s : _root_.Go.ChangeSpec) : _root_.Go.OpenSpec := { _root_.Go.OpenSpec.ofChange s with cond := some uptoSmall }

/-- 'vedettelaw16.DiffTells', WHERE WHAT IT READS IS OF BULK AT MOST 1048576: true; the input reads as it did. -/
def diffTellsUptoRow : OpenClaim := { program := "ytajfdeeepklfoaa", sum := "e6be16dfdb63d8b94f7f74092a6ecd0ddc2f4c84400e1a34a00b25b016933f97", func := "vedette/vedettelaw16.DiffTells", spec := "diffTells", apart := false, narrowed := true }
def DiffTellsUptoSaid : Prop := diffTellsUptoRow.holds Try.pinned (OpenSpec.upto diffTellsSpec)

/-- 'vedettelaw16.DiffParts', WHERE WHAT IT READS IS OF BULK AT MOST 1048576: true; the input reads as it did. -/
def diffPartsUptoRow : OpenClaim := { program := "ytajfdeeepklfoaa", sum := "e6be16dfdb63d8b94f7f74092a6ecd0ddc2f4c84400e1a34a00b25b016933f97", func := "vedette/vedettelaw16.DiffParts", spec := "diffParts", apart := false, narrowed := true }
def DiffPartsUptoSaid : Prop := diffPartsUptoRow.holds Try.pinned (OpenSpec.upto diffPartsSpec)

/-- 'vedettelaw16.DiffRects', WHERE WHAT IT READS IS OF BULK AT MOST 1048576: true; the input reads as it did. -/
def diffRectsUptoRow : OpenClaim := { program := "ytajfdeeepklfoaa", sum := "e6be16dfdb63d8b94f7f74092a6ecd0ddc2f4c84400e1a34a00b25b016933f97", func := "vedette/vedettelaw16.DiffRects", spec := "diffRects", apart := false, narrowed := true }
def DiffRectsUptoSaid : Prop := diffRectsUptoRow.holds Try.pinned (OpenSpec.upto diffRectsSpec)

/-- 'vedettelaw16.DiffBlind', WHERE WHAT IT READS IS OF BULK AT MOST 1048576: true; the input reads as it did. -/
def diffBlindUptoRow : OpenClaim := { program := "ytajfdeeepklfoaa", sum := "e6be16dfdb63d8b94f7f74092a6ecd0ddc2f4c84400e1a34a00b25b016933f97", func := "vedette/vedettelaw16.DiffBlind", spec := "diffBlind", apart := false, narrowed := true }
def DiffBlindUptoSaid : Prop := diffBlindUptoRow.holds Try.pinned (OpenSpec.upto diffBlindSpec)

/-- 'vedettelaw5.CellTells', WHERE WHAT IT READS IS OF BULK AT MOST 1048576: true; the input reads as it did. -/
def cellTellsUptoRow : OpenClaim := { program := "ytajfdeeepklfoaa", sum := "e6be16dfdb63d8b94f7f74092a6ecd0ddc2f4c84400e1a34a00b25b016933f97", func := "vedette/vedettelaw5.CellTells", spec := "cellTells", unfollowed := true, recurses := true, apart := false, narrowed := true }
def CellTellsUptoSaid : Prop := cellTellsUptoRow.holds Try.pinned (OpenSpec.upto cellTellsSpec)

/-- 'vedettelaw5.CellWhole', WHERE WHAT IT READS IS OF BULK AT MOST 1048576: true; the input reads as it did. -/
def cellWholeUptoRow : OpenClaim := { program := "ytajfdeeepklfoaa", sum := "e6be16dfdb63d8b94f7f74092a6ecd0ddc2f4c84400e1a34a00b25b016933f97", func := "vedette/vedettelaw5.CellWhole", spec := "cellWhole", unfollowed := true, recurses := true, apart := false, narrowed := true }
def CellWholeUptoSaid : Prop := cellWholeUptoRow.holds Try.pinned (OpenSpec.upto cellWholeSpec)

/-- 'vedettelaw5.CellNeighbours', WHERE WHAT IT READS IS OF BULK AT MOST 1048576: true; the input reads as it did. -/
def cellNeighboursUptoRow : OpenClaim := { program := "ytajfdeeepklfoaa", sum := "e6be16dfdb63d8b94f7f74092a6ecd0ddc2f4c84400e1a34a00b25b016933f97", func := "vedette/vedettelaw5.CellNeighbours", spec := "cellNeighbours", unfollowed := true, recurses := true, apart := false, narrowed := true }
def CellNeighboursUptoSaid : Prop := cellNeighboursUptoRow.holds Try.pinned (OpenSpec.upto cellNeighboursSpec)

/-- 'vedettelaw5.CellCounts', WHERE WHAT IT READS IS OF BULK AT MOST 1048576: true; the input reads as it did. -/
def cellCountsUptoRow : OpenClaim := { program := "ytajfdeeepklfoaa", sum := "e6be16dfdb63d8b94f7f74092a6ecd0ddc2f4c84400e1a34a00b25b016933f97", func := "vedette/vedettelaw5.CellCounts", spec := "cellCounts", unfollowed := true, recurses := true, apart := false, narrowed := true }
def CellCountsUptoSaid : Prop := cellCountsUptoRow.holds Try.pinned (OpenSpec.upto cellCountsSpec)

/-- 'vedettelaw14.WatchPlays', WHERE WHAT IT READS IS OF BULK AT MOST 1048576: true; the input reads as it did. -/
def watchPlaysUptoRow : OpenClaim := { program := "ytajfdeeepklfoaa", sum := "e6be16dfdb63d8b94f7f74092a6ecd0ddc2f4c84400e1a34a00b25b016933f97", func := "vedette/vedettelaw14.WatchPlays", spec := "watchPlays", apart := false, narrowed := true }
def WatchPlaysUptoSaid : Prop := watchPlaysUptoRow.holds Try.pinned (OpenSpec.upto watchPlaysSpec)

/-- 'vedettelaw14.WatchSessions', WHERE WHAT IT READS IS OF BULK AT MOST 1048576: true; the input reads as it did. -/
def watchSessionsUptoRow : OpenClaim := { program := "ytajfdeeepklfoaa", sum := "e6be16dfdb63d8b94f7f74092a6ecd0ddc2f4c84400e1a34a00b25b016933f97", func := "vedette/vedettelaw14.WatchSessions", spec := "watchSessions", apart := false, narrowed := true }
def WatchSessionsUptoSaid : Prop := watchSessionsUptoRow.holds Try.pinned (OpenSpec.upto watchSessionsSpec)

/-- 'vedettelaw14.WatchTurns', WHERE WHAT IT READS IS OF BULK AT MOST 1048576: true; the input reads as it did. -/
def watchTurnsUptoRow : OpenClaim := { program := "ytajfdeeepklfoaa", sum := "e6be16dfdb63d8b94f7f74092a6ecd0ddc2f4c84400e1a34a00b25b016933f97", func := "vedette/vedettelaw14.WatchTurns", spec := "watchTurns", apart := false, narrowed := true }
def WatchTurnsUptoSaid : Prop := watchTurnsUptoRow.holds Try.pinned (OpenSpec.upto watchTurnsSpec)

end Rows
end Go.Proofs.Ytajfdeeepklfoaa
