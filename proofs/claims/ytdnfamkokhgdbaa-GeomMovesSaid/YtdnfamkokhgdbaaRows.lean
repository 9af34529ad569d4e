/-
  No cell of these rows narrows 'for every input' (looked for: loops, veiled, ifaces, maps, wideKeys, modest, calm, conditions, laid).
  DERIVED. THE GIVEN ROWS OF THIS SEAT. 8 by the template 'for every input the law returns true; each argument reads behind the call as it read before'; 0 by the template 'total and deterministic' (their statements: YtdnfamkokhgdbaaTotals.lean).
  GIVEN WITH THE SEED: the statements are not yours to turn. If you find one false, say at which input.
  Laid BY PROGRAM, IN A SANDBOX (cutbox-rows.mjs): the forced cells as the released guide's own fill.sh prints them over the translation 559d538766a7f451… (all of the seat's roots in one cut). By AI agents, Wed Nov 11 2026. No macro, syntax, notation, axiom, sorry.
-/
import Derived.Test.YtdnfamkokhgdbaaChecked
import GoSem.Claim
import GoSem.ClaimJoined
import GoSem.ClaimMapViews
import Derived.JoinedTies
import Derived.KernelRfl
namespace Go.Proofs.Ytdnfamkokhgdbaa
/- THE CELL 'sum', in the pinned program and in every row, IS THE sha256 OF THE DUMP (.gsa) THAT YtdnfamkokhgdbaaProg.lean LOADS. Nothing in Lean hashes anything: it is a label: what it is worth is what the hold of that sum in a sandbox is worth. -/
noncomputable def Try.pinned : Pinned := { name := "ytdnfamkokhgdbaa", sum := "559d538766a7f451859cbb082f8ad3ecd6d386b1f3dfca28e9cdee4de226583b", checked := Try.checked }
namespace Rows
def none {H : Type} : Left H := { results := [], args := [] }

/-- 'vedettelaw4.MortonTells': WHATEVER THE INPUT: true; the input reads as it did. -/
def mortonTellsSpec : ChangeSpec := { name := "mortonTells", fn := fun _ => fun
  | [d1, d2, d3, d4, d5] => { results := [.lit (.bool true)], args := [d1, d2, d3, d4, d5] }
  | _ => none }
def mortonTellsRow : OpenClaim := { program := "ytdnfamkokhgdbaa", sum := "559d538766a7f451859cbb082f8ad3ecd6d386b1f3dfca28e9cdee4de226583b", func := "vedette/vedettelaw4.MortonTells", spec := "mortonTells", apart := false }
def MortonTellsSaid : Prop := mortonTellsRow.holds Try.pinned (OpenSpec.ofChange mortonTellsSpec)

/-- ITS FALSE NEIGHBOUR: 'it returns false'. Refute it at one input. -/
def mortonTellsWrong : ChangeSpec := { name := "mortonTells", fn := fun _ => fun
  | [d1, d2, d3, d4, d5] => { results := [.lit (.bool false)], args := [d1, d2, d3, d4, d5] }
  | _ => none }
def MortonTellsWrongFalsely : Prop := mortonTellsRow.holds Try.pinned (OpenSpec.ofChange mortonTellsWrong)

/-- 'vedettelaw4.MortonBack': WHATEVER THE INPUT: true; the input reads as it did. -/
def mortonBackSpec : ChangeSpec := { name := "mortonBack", fn := fun _ => fun
  | [d1, d2, d3] => { results := [.lit (.bool true)], args := [d1, d2, d3] }
  | _ => none }
def mortonBackRow : OpenClaim := { program := "ytdnfamkokhgdbaa", sum := "559d538766a7f451859cbb082f8ad3ecd6d386b1f3dfca28e9cdee4de226583b", func := "vedette/vedettelaw4.MortonBack", spec := "mortonBack", apart := false }
def MortonBackSaid : Prop := mortonBackRow.holds Try.pinned (OpenSpec.ofChange mortonBackSpec)

/-- ITS FALSE NEIGHBOUR: 'it returns false'. Refute it at one input. -/
def mortonBackWrong : ChangeSpec := { name := "mortonBack", fn := fun _ => fun
  | [d1, d2, d3] => { results := [.lit (.bool false)], args := [d1, d2, d3] }
  | _ => none }
def MortonBackWrongFalsely : Prop := mortonBackRow.holds Try.pinned (OpenSpec.ofChange mortonBackWrong)

/-- 'vedettelaw4.MortonOrder': WHATEVER THE INPUT: true; the input reads as it did. -/
def mortonOrderSpec : ChangeSpec := { name := "mortonOrder", fn := fun _ => fun
  | [d1, d2, d3, d4, d5, d6] => { results := [.lit (.bool true)], args := [d1, d2, d3, d4, d5, d6] }
  | _ => none }
def mortonOrderRow : OpenClaim := { program := "ytdnfamkokhgdbaa", sum := "559d538766a7f451859cbb082f8ad3ecd6d386b1f3dfca28e9cdee4de226583b", func := "vedette/vedettelaw4.MortonOrder", spec := "mortonOrder", apart := false }
def MortonOrderSaid : Prop := mortonOrderRow.holds Try.pinned (OpenSpec.ofChange mortonOrderSpec)

/-- ITS FALSE NEIGHBOUR: 'it returns false'. Refute it at one input. -/
def mortonOrderWrong : ChangeSpec := { name := "mortonOrder", fn := fun _ => fun
  | [d1, d2, d3, d4, d5, d6] => { results := [.lit (.bool false)], args := [d1, d2, d3, d4, d5, d6] }
  | _ => none }
def MortonOrderWrongFalsely : Prop := mortonOrderRow.holds Try.pinned (OpenSpec.ofChange mortonOrderWrong)

/-- 'vedettelaw3.GeomTells': WHATEVER THE INPUT: true; the input reads as it did. -/
def geomTellsSpec : ChangeSpec := { name := "geomTells", fn := fun _ => fun
  | [d1, d2, d3] => { results := [.lit (.bool true)], args := [d1, d2, d3] }
  | _ => none }
def geomTellsRow : OpenClaim := { program := "ytdnfamkokhgdbaa", sum := "559d538766a7f451859cbb082f8ad3ecd6d386b1f3dfca28e9cdee4de226583b", func := "vedette/vedettelaw3.GeomTells", spec := "geomTells", apart := false }
def GeomTellsSaid : Prop := geomTellsRow.holds Try.pinned (OpenSpec.ofChange geomTellsSpec)

/-- ITS FALSE NEIGHBOUR: 'it returns false'. Refute it at one input. -/
def geomTellsWrong : ChangeSpec := { name := "geomTells", fn := fun _ => fun
  | [d1, d2, d3] => { results := [.lit (.bool false)], args := [d1, d2, d3] }
  | _ => none }
def GeomTellsWrongFalsely : Prop := geomTellsRow.holds Try.pinned (OpenSpec.ofChange geomTellsWrong)

/-- 'vedettelaw3.GeomMinus': WHATEVER THE INPUT: true; the input reads as it did. -/
def geomMinusSpec : ChangeSpec := { name := "geomMinus", fn := fun _ => fun
  | [d1, d2, d3] => { results := [.lit (.bool true)], args := [d1, d2, d3] }
  | _ => none }
def geomMinusRow : OpenClaim := { program := "ytdnfamkokhgdbaa", sum := "559d538766a7f451859cbb082f8ad3ecd6d386b1f3dfca28e9cdee4de226583b", func := "vedette/vedettelaw3.GeomMinus", spec := "geomMinus", apart := false }
def GeomMinusSaid : Prop := geomMinusRow.holds Try.pinned (OpenSpec.ofChange geomMinusSpec)

/-- ITS FALSE NEIGHBOUR: 'it returns false'. Refute it at one input. -/
def geomMinusWrong : ChangeSpec := { name := "geomMinus", fn := fun _ => fun
  | [d1, d2, d3] => { results := [.lit (.bool false)], args := [d1, d2, d3] }
  | _ => none }
def GeomMinusWrongFalsely : Prop := geomMinusRow.holds Try.pinned (OpenSpec.ofChange geomMinusWrong)

/-- 'vedettelaw3.GeomAreas': WHATEVER THE INPUT: true; the input reads as it did. -/
def geomAreasSpec : ChangeSpec := { name := "geomAreas", fn := fun _ => fun
  | [d1, d2] => { results := [.lit (.bool true)], args := [d1, d2] }
  | _ => none }
def geomAreasRow : OpenClaim := { program := "ytdnfamkokhgdbaa", sum := "559d538766a7f451859cbb082f8ad3ecd6d386b1f3dfca28e9cdee4de226583b", func := "vedette/vedettelaw3.GeomAreas", spec := "geomAreas", apart := false }
def GeomAreasSaid : Prop := geomAreasRow.holds Try.pinned (OpenSpec.ofChange geomAreasSpec)

/-- ITS FALSE NEIGHBOUR: 'it returns false'. Refute it at one input. -/
def geomAreasWrong : ChangeSpec := { name := "geomAreas", fn := fun _ => fun
  | [d1, d2] => { results := [.lit (.bool false)], args := [d1, d2] }
  | _ => none }
def GeomAreasWrongFalsely : Prop := geomAreasRow.holds Try.pinned (OpenSpec.ofChange geomAreasWrong)

/-- 'vedettelaw3.GeomMeets': WHATEVER THE INPUT: true; the input reads as it did. -/
def geomMeetsSpec : ChangeSpec := { name := "geomMeets", fn := fun _ => fun
  | [d1, d2, d3, d4] => { results := [.lit (.bool true)], args := [d1, d2, d3, d4] }
  | _ => none }
def geomMeetsRow : OpenClaim := { program := "ytdnfamkokhgdbaa", sum := "559d538766a7f451859cbb082f8ad3ecd6d386b1f3dfca28e9cdee4de226583b", func := "vedette/vedettelaw3.GeomMeets", spec := "geomMeets", apart := false }
def GeomMeetsSaid : Prop := geomMeetsRow.holds Try.pinned (OpenSpec.ofChange geomMeetsSpec)

/-- ITS FALSE NEIGHBOUR: 'it returns false'. Refute it at one input. -/
def geomMeetsWrong : ChangeSpec := { name := "geomMeets", fn := fun _ => fun
  | [d1, d2, d3, d4] => { results := [.lit (.bool false)], args := [d1, d2, d3, d4] }
  | _ => none }
def GeomMeetsWrongFalsely : Prop := geomMeetsRow.holds Try.pinned (OpenSpec.ofChange geomMeetsWrong)

/-- 'vedettelaw3.GeomMoves': WHATEVER THE INPUT: true; the input reads as it did. -/
def geomMovesSpec : ChangeSpec := { name := "geomMoves", fn := fun _ => fun
  | [d1, d2, d3, d4, d5, d6] => { results := [.lit (.bool true)], args := [d1, d2, d3, d4, d5, d6] }
  | _ => none }
def geomMovesRow : OpenClaim := { program := "ytdnfamkokhgdbaa", sum := "559d538766a7f451859cbb082f8ad3ecd6d386b1f3dfca28e9cdee4de226583b", func := "vedette/vedettelaw3.GeomMoves", spec := "geomMoves", apart := false }
def GeomMovesSaid : Prop := geomMovesRow.holds Try.pinned (OpenSpec.ofChange geomMovesSpec)

/-- ITS FALSE NEIGHBOUR: 'it returns false'. Refute it at one input. -/
def geomMovesWrong : ChangeSpec := { name := "geomMoves", fn := fun _ => fun
  | [d1, d2, d3, d4, d5, d6] => { results := [.lit (.bool false)], args := [d1, d2, d3, d4, d5, d6] }
  | _ => none }
def GeomMovesWrongFalsely : Prop := geomMovesRow.holds Try.pinned (OpenSpec.ofChange geomMovesWrong)

/- THE SECOND FORM. 'bulk': how many values and letters a reading holds, each counted each time it is reached (what is shared counts as often as it is met; a slice's spare places count too). A statement '..UptoSaid' is the law's where the arguments, and the package variables that the reading takes, are together of bulk at most 1048576: NARROWER than '..Said'. Prove '..Said' where nothing that the law and all that it calls make is longer than what came in: it says more and counts as full. Else prove '..UptoSaid'. A law counts once. -/
mutual
def uptoBulk {H : Type} : DataW H → Nat
  | .lit (.string bytes) => bytes.length + 1
  | .lit _ => 1
  | .nil => 1
  | .ptr d => uptoBulk d + 1
  | .slice elems spare => uptoBulkAll elems + uptoBulkAll spare + 1
  | .agg parts => uptoBulkAll parts + 1
  | .iface _ d => uptoBulk d + 1
  | .map entries => uptoBulkEntries entries + 1
  | .held _ => 1
def uptoBulkAll {H : Type} : List (DataW H) → Nat
  | [] => 0
  | d :: r => uptoBulk d + uptoBulkAll r
def uptoBulkEntries {H : Type} : List (Lit × DataW H) → Nat
  | [] => 0
  | x :: r => uptoBulkEntry x + uptoBulkEntries r
def uptoBulkEntry {H : Type} : Lit × DataW H → Nat
  | (.string bytes, d) => bytes.length + uptoBulk d + 1
  | (_, d) => uptoBulk d + 1
 end
def uptoSmall : (H : Type) → List (DataW H) → Bool := fun _ ds => decide (uptoBulkAll ds ≤ 1048576)
def OpenSpec.upto (s : _root_.Go.ChangeSpec) : _root_.Go.OpenSpec := { _root_.Go.OpenSpec.ofChange s with cond := some uptoSmall }

/-- 'vedettelaw4.MortonTells', WHERE WHAT IT READS IS OF BULK AT MOST 1048576: true; the input reads as it did. -/
def mortonTellsUptoRow : OpenClaim := { program := "ytdnfamkokhgdbaa", sum := "559d538766a7f451859cbb082f8ad3ecd6d386b1f3dfca28e9cdee4de226583b", func := "vedette/vedettelaw4.MortonTells", spec := "mortonTells", apart := false, narrowed := true }
def MortonTellsUptoSaid : Prop := mortonTellsUptoRow.holds Try.pinned (OpenSpec.upto mortonTellsSpec)

/-- 'vedettelaw4.MortonBack', WHERE WHAT IT READS IS OF BULK AT MOST 1048576: true; the input reads as it did. -/
def mortonBackUptoRow : OpenClaim := { program := "ytdnfamkokhgdbaa", sum := "559d538766a7f451859cbb082f8ad3ecd6d386b1f3dfca28e9cdee4de226583b", func := "vedette/vedettelaw4.MortonBack", spec := "mortonBack", apart := false, narrowed := true }
def MortonBackUptoSaid : Prop := mortonBackUptoRow.holds Try.pinned (OpenSpec.upto mortonBackSpec)

/-- 'vedettelaw4.MortonOrder', WHERE WHAT IT READS IS OF BULK AT MOST 1048576: true; the input reads as it did. -/
def mortonOrderUptoRow : OpenClaim := { program := "ytdnfamkokhgdbaa", sum := "559d538766a7f451859cbb082f8ad3ecd6d386b1f3dfca28e9cdee4de226583b", func := "vedette/vedettelaw4.MortonOrder", spec := "mortonOrder", apart := false, narrowed := true }
def MortonOrderUptoSaid : Prop := mortonOrderUptoRow.holds Try.pinned (OpenSpec.upto mortonOrderSpec)

/-- 'vedettelaw3.GeomTells', WHERE WHAT IT READS IS OF BULK AT MOST 1048576: true; the input reads as it did. -/
def geomTellsUptoRow : OpenClaim := { program := "ytdnfamkokhgdbaa", sum := "559d538766a7f451859cbb082f8ad3ecd6d386b1f3dfca28e9cdee4de226583b", func := "vedette/vedettelaw3.GeomTells", spec := "geomTells", apart := false, narrowed := true }
def GeomTellsUptoSaid : Prop := geomTellsUptoRow.holds Try.pinned (OpenSpec.upto geomTellsSpec)

/-- 'vedettelaw3.GeomMinus', WHERE WHAT IT READS IS OF BULK AT MOST 1048576: true; the input reads as it did. -/
def geomMinusUptoRow : OpenClaim := { program := "ytdnfamkokhgdbaa", sum := "559d538766a7f451859cbb082f8ad3ecd6d386b1f3dfca28e9cdee4de226583b", func := "vedette/vedettelaw3.GeomMinus", spec := "geomMinus", apart := false, narrowed := true }
def GeomMinusUptoSaid : Prop := geomMinusUptoRow.holds Try.pinned (OpenSpec.upto geomMinusSpec)

/-- 'vedettelaw3.GeomAreas', WHERE WHAT IT READS IS OF BULK AT MOST 1048576: true; the input reads as it did. -/
def geomAreasUptoRow : OpenClaim := { program := "ytdnfamkokhgdbaa", sum := "559d538766a7f451859cbb082f8ad3ecd6d386b1f3dfca28e9cdee4de226583b", func := "vedette/vedettelaw3.GeomAreas", spec := "geomAreas", apart := false, narrowed := true }
def GeomAreasUptoSaid : Prop := geomAreasUptoRow.holds Try.pinned (OpenSpec.upto geomAreasSpec)

/-- 'vedettelaw3.GeomMeets', WHERE WHAT IT READS IS OF BULK AT MOST 1048576: true; the input reads as it did. -/
def geomMeetsUptoRow : OpenClaim := { program := "ytdnfamkokhgdbaa", sum := "559d538766a7f451859cbb082f8ad3ecd6d386b1f3dfca28e9cdee4de226583b", func := "vedette/vedettelaw3.GeomMeets", spec := "geomMeets", apart := false, narrowed := true }
def GeomMeetsUptoSaid : Prop := geomMeetsUptoRow.holds Try.pinned (OpenSpec.upto geomMeetsSpec)

/-- 'vedettelaw3.GeomMoves', WHERE WHAT IT READS IS OF BULK AT MOST 1048576: true; the input reads as it did. -/
def geomMovesUptoRow : OpenClaim := { program := "ytdnfamkokhgdbaa", sum := "559d538766a7f451859cbb082f8ad3ecd6d386b1f3dfca28e9cdee4de226583b", func := "vedette/vedettelaw3.GeomMoves", spec := "geomMoves", apart := false, narrowed := true }
def GeomMovesUptoSaid : Prop := geomMovesUptoRow.holds Try.pinned (OpenSpec.upto geomMovesSpec)

end Rows
end Go.Proofs.Ytdnfamkokhgdbaa
