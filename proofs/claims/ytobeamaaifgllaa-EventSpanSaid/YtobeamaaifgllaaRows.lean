/-
  No cell of these rows narrows 'for every input' (looked for: loops, veiled, ifaces, maps, wideKeys, modest, calm, conditions, laid).
  DERIVED. THE GIVEN ROWS OF THIS SEAT. 12 by the template 'for every input the law returns true; each argument reads behind the call as it read before'; 0 by the template 'total and deterministic' (their statements: YtobeamaaifgllaaTotals.lean).
  GIVEN WITH THE SEED: the statements are not yours to turn. If you find one false, say at which input.
  Laid BY PROGRAM, IN A SANDBOX (cutbox-rows.mjs): the forced cells as the released guide's own fill.sh prints them over the translation 1450fb6d2270fb1b… (all of the seat's roots in one cut). By AI agents, Wed Nov 11 2026. No macro, syntax, notation, axiom, sorry.
-/
import Derived.Test.YtobeamaaifgllaaChecked
import GoSem.Claim
import GoSem.ClaimJoined
import GoSem.ClaimMapViews
import Derived.JoinedTies
import Derived.KernelRfl
namespace Go.Proofs.Ytobeamaaifgllaa
/- THE CELL 'sum', in the pinned program and in every row, IS THE sha256 OF THE DUMP (.gsa) THAT YtobeamaaifgllaaProg.lean LOADS. Nothing in Lean hashes anything: it is a label: what it is worth is what the hold of that sum in a sandbox is worth. -/
noncomputable def Try.pinned : Pinned := { name := "ytobeamaaifgllaa", sum := "1450fb6d2270fb1b9571ba9478d8d8bdc74ab7e4af5244f4e9ed4ac1969b4bf1", checked := Try.checked }
namespace Rows
def none {H : Type} : Left H := { results := [], args := [] }

/-- 'vedettelaw7.ThingTells': WHATEVER THE INPUT: true; the input reads as it did. -/
def thingTellsSpec : ChangeSpec := { name := "thingTells", fn := fun _ => fun
  | [d1, d2, d3, d4, d5] => { results := [.lit (.bool true)], args := [d1, d2, d3, d4, d5] }
  | _ => none }
def thingTellsRow : OpenClaim := { program := "ytobeamaaifgllaa", sum := "1450fb6d2270fb1b9571ba9478d8d8bdc74ab7e4af5244f4e9ed4ac1969b4bf1", func := "vedette/vedettelaw7.ThingTells", spec := "thingTells", inPlace := ["internal/abi.NoEscape"], unfollowed := true, recurses := true, apart := false }
def ThingTellsSaid : Prop := thingTellsRow.holds Try.pinned (OpenSpec.ofChange thingTellsSpec)

/-- ITS FALSE NEIGHBOUR: 'it returns false'. Refute it at one input. -/
def thingTellsWrong : ChangeSpec := { name := "thingTells", fn := fun _ => fun
  | [d1, d2, d3, d4, d5] => { results := [.lit (.bool false)], args := [d1, d2, d3, d4, d5] }
  | _ => none }
def ThingTellsWrongFalsely : Prop := thingTellsRow.holds Try.pinned (OpenSpec.ofChange thingTellsWrong)

/-- 'vedettelaw7.ThingReads': WHATEVER THE INPUT: true; the input reads as it did. -/
def thingReadsSpec : ChangeSpec := { name := "thingReads", fn := fun _ => fun
  | [d] => { results := [.lit (.bool true)], args := [d] }
  | _ => none }
def thingReadsRow : OpenClaim := { program := "ytobeamaaifgllaa", sum := "1450fb6d2270fb1b9571ba9478d8d8bdc74ab7e4af5244f4e9ed4ac1969b4bf1", func := "vedette/vedettelaw7.ThingReads", spec := "thingReads", inPlace := ["internal/abi.NoEscape"], unfollowed := true, recurses := true, apart := false }
def ThingReadsSaid : Prop := thingReadsRow.holds Try.pinned (OpenSpec.ofChange thingReadsSpec)

/-- ITS FALSE NEIGHBOUR: 'it returns false'. Refute it at one input. -/
def thingReadsWrong : ChangeSpec := { name := "thingReads", fn := fun _ => fun
  | [d] => { results := [.lit (.bool false)], args := [d] }
  | _ => none }
def ThingReadsWrongFalsely : Prop := thingReadsRow.holds Try.pinned (OpenSpec.ofChange thingReadsWrong)

/-- 'vedettelaw7.ThingBack': WHATEVER THE INPUT: true; the input reads as it did. -/
def thingBackSpec : ChangeSpec := { name := "thingBack", fn := fun _ => fun
  | [d1, d2, d3] => { results := [.lit (.bool true)], args := [d1, d2, d3] }
  | _ => none }
def thingBackRow : OpenClaim := { program := "ytobeamaaifgllaa", sum := "1450fb6d2270fb1b9571ba9478d8d8bdc74ab7e4af5244f4e9ed4ac1969b4bf1", func := "vedette/vedettelaw7.ThingBack", spec := "thingBack", inPlace := ["internal/abi.NoEscape"], unfollowed := true, recurses := true, apart := false }
def ThingBackSaid : Prop := thingBackRow.holds Try.pinned (OpenSpec.ofChange thingBackSpec)

/-- ITS FALSE NEIGHBOUR: 'it returns false'. Refute it at one input. -/
def thingBackWrong : ChangeSpec := { name := "thingBack", fn := fun _ => fun
  | [d1, d2, d3] => { results := [.lit (.bool false)], args := [d1, d2, d3] }
  | _ => none }
def ThingBackWrongFalsely : Prop := thingBackRow.holds Try.pinned (OpenSpec.ofChange thingBackWrong)

/-- 'vedettelaw7.ThingNumbers': WHATEVER THE INPUT: true; the input reads as it did. -/
def thingNumbersSpec : ChangeSpec := { name := "thingNumbers", fn := fun _ => fun
  | [d1, d2, d3, d4] => { results := [.lit (.bool true)], args := [d1, d2, d3, d4] }
  | _ => none }
def thingNumbersRow : OpenClaim := { program := "ytobeamaaifgllaa", sum := "1450fb6d2270fb1b9571ba9478d8d8bdc74ab7e4af5244f4e9ed4ac1969b4bf1", func := "vedette/vedettelaw7.ThingNumbers", spec := "thingNumbers", inPlace := ["internal/abi.NoEscape"], unfollowed := true, recurses := true, apart := false }
def ThingNumbersSaid : Prop := thingNumbersRow.holds Try.pinned (OpenSpec.ofChange thingNumbersSpec)

/-- ITS FALSE NEIGHBOUR: 'it returns false'. Refute it at one input. -/
def thingNumbersWrong : ChangeSpec := { name := "thingNumbers", fn := fun _ => fun
  | [d1, d2, d3, d4] => { results := [.lit (.bool false)], args := [d1, d2, d3, d4] }
  | _ => none }
def ThingNumbersWrongFalsely : Prop := thingNumbersRow.holds Try.pinned (OpenSpec.ofChange thingNumbersWrong)

/-- 'vedettelaw7.ThingRows': WHATEVER THE INPUT: true; the input reads as it did. -/
def thingRowsSpec : ChangeSpec := { name := "thingRows", fn := fun _ => fun
  | [d] => { results := [.lit (.bool true)], args := [d] }
  | _ => none }
def thingRowsRow : OpenClaim := { program := "ytobeamaaifgllaa", sum := "1450fb6d2270fb1b9571ba9478d8d8bdc74ab7e4af5244f4e9ed4ac1969b4bf1", func := "vedette/vedettelaw7.ThingRows", spec := "thingRows", inPlace := ["internal/abi.NoEscape"], unfollowed := true, recurses := true, apart := false }
def ThingRowsSaid : Prop := thingRowsRow.holds Try.pinned (OpenSpec.ofChange thingRowsSpec)

/-- ITS FALSE NEIGHBOUR: 'it returns false'. Refute it at one input. -/
def thingRowsWrong : ChangeSpec := { name := "thingRows", fn := fun _ => fun
  | [d] => { results := [.lit (.bool false)], args := [d] }
  | _ => none }
def ThingRowsWrongFalsely : Prop := thingRowsRow.holds Try.pinned (OpenSpec.ofChange thingRowsWrong)

/-- 'vedettelaw7.ThingMany': WHATEVER THE INPUT: true; the input reads as it did. -/
def thingManySpec : ChangeSpec := { name := "thingMany", fn := fun _ => fun
  | [d1, d2] => { results := [.lit (.bool true)], args := [d1, d2] }
  | _ => none }
def thingManyRow : OpenClaim := { program := "ytobeamaaifgllaa", sum := "1450fb6d2270fb1b9571ba9478d8d8bdc74ab7e4af5244f4e9ed4ac1969b4bf1", func := "vedette/vedettelaw7.ThingMany", spec := "thingMany", inPlace := ["internal/abi.NoEscape"], unfollowed := true, recurses := true, apart := false }
def ThingManySaid : Prop := thingManyRow.holds Try.pinned (OpenSpec.ofChange thingManySpec)

/-- ITS FALSE NEIGHBOUR: 'it returns false'. Refute it at one input. -/
def thingManyWrong : ChangeSpec := { name := "thingMany", fn := fun _ => fun
  | [d1, d2] => { results := [.lit (.bool false)], args := [d1, d2] }
  | _ => none }
def ThingManyWrongFalsely : Prop := thingManyRow.holds Try.pinned (OpenSpec.ofChange thingManyWrong)

/-- 'vedettelaw16.DiffFolds': WHATEVER THE INPUT: true; the input reads as it did. -/
def diffFoldsSpec : ChangeSpec := { name := "diffFolds", fn := fun _ => fun
  | [d1, d2, d3, d4] => { results := [.lit (.bool true)], args := [d1, d2, d3, d4] }
  | _ => none }
def diffFoldsRow : OpenClaim := { program := "ytobeamaaifgllaa", sum := "1450fb6d2270fb1b9571ba9478d8d8bdc74ab7e4af5244f4e9ed4ac1969b4bf1", func := "vedette/vedettelaw16.DiffFolds", spec := "diffFolds", inPlace := ["slices.overlaps[vedette/api.Thing]"], unfollowed := true, recurses := true, apart := false }
def DiffFoldsSaid : Prop := diffFoldsRow.holds Try.pinned (OpenSpec.ofChange diffFoldsSpec)

/-- ITS FALSE NEIGHBOUR: 'it returns false'. Refute it at one input. -/
def diffFoldsWrong : ChangeSpec := { name := "diffFolds", fn := fun _ => fun
  | [d1, d2, d3, d4] => { results := [.lit (.bool false)], args := [d1, d2, d3, d4] }
  | _ => none }
def DiffFoldsWrongFalsely : Prop := diffFoldsRow.holds Try.pinned (OpenSpec.ofChange diffFoldsWrong)

/-- 'vedettelaw15.EventTells': WHATEVER THE INPUT: true; the input reads as it did. -/
def eventTellsSpec : ChangeSpec := { name := "eventTells", fn := fun _ => fun
  | [d1, d2, d3] => { results := [.lit (.bool true)], args := [d1, d2, d3] }
  | _ => none }
def eventTellsRow : OpenClaim := { program := "ytobeamaaifgllaa", sum := "1450fb6d2270fb1b9571ba9478d8d8bdc74ab7e4af5244f4e9ed4ac1969b4bf1", func := "vedette/vedettelaw15.EventTells", spec := "eventTells", inPlace := ["internal/abi.NoEscape", "slices.overlaps[vedette/api.Thing]"], unfollowed := true, recurses := true, apart := false }
def EventTellsSaid : Prop := eventTellsRow.holds Try.pinned (OpenSpec.ofChange eventTellsSpec)

/-- ITS FALSE NEIGHBOUR: 'it returns false'. Refute it at one input. -/
def eventTellsWrong : ChangeSpec := { name := "eventTells", fn := fun _ => fun
  | [d1, d2, d3] => { results := [.lit (.bool false)], args := [d1, d2, d3] }
  | _ => none }
def EventTellsWrongFalsely : Prop := eventTellsRow.holds Try.pinned (OpenSpec.ofChange eventTellsWrong)

/-- 'vedettelaw15.EventReads': WHATEVER THE INPUT: true; the input reads as it did. -/
def eventReadsSpec : ChangeSpec := { name := "eventReads", fn := fun _ => fun
  | [d] => { results := [.lit (.bool true)], args := [d] }
  | _ => none }
def eventReadsRow : OpenClaim := { program := "ytobeamaaifgllaa", sum := "1450fb6d2270fb1b9571ba9478d8d8bdc74ab7e4af5244f4e9ed4ac1969b4bf1", func := "vedette/vedettelaw15.EventReads", spec := "eventReads", inPlace := ["internal/abi.NoEscape", "slices.overlaps[vedette/api.Thing]"], unfollowed := true, recurses := true, apart := false }
def EventReadsSaid : Prop := eventReadsRow.holds Try.pinned (OpenSpec.ofChange eventReadsSpec)

/-- ITS FALSE NEIGHBOUR: 'it returns false'. Refute it at one input. -/
def eventReadsWrong : ChangeSpec := { name := "eventReads", fn := fun _ => fun
  | [d] => { results := [.lit (.bool false)], args := [d] }
  | _ => none }
def EventReadsWrongFalsely : Prop := eventReadsRow.holds Try.pinned (OpenSpec.ofChange eventReadsWrong)

/-- 'vedettelaw15.EventBack': WHATEVER THE INPUT: true; the input reads as it did. -/
def eventBackSpec : ChangeSpec := { name := "eventBack", fn := fun _ => fun
  | [d1, d2, d3] => { results := [.lit (.bool true)], args := [d1, d2, d3] }
  | _ => none }
def eventBackRow : OpenClaim := { program := "ytobeamaaifgllaa", sum := "1450fb6d2270fb1b9571ba9478d8d8bdc74ab7e4af5244f4e9ed4ac1969b4bf1", func := "vedette/vedettelaw15.EventBack", spec := "eventBack", inPlace := ["internal/abi.NoEscape", "slices.overlaps[vedette/api.Thing]"], unfollowed := true, recurses := true, apart := false }
def EventBackSaid : Prop := eventBackRow.holds Try.pinned (OpenSpec.ofChange eventBackSpec)

/-- ITS FALSE NEIGHBOUR: 'it returns false'. Refute it at one input. -/
def eventBackWrong : ChangeSpec := { name := "eventBack", fn := fun _ => fun
  | [d1, d2, d3] => { results := [.lit (.bool false)], args := [d1, d2, d3] }
  | _ => none }
def EventBackWrongFalsely : Prop := eventBackRow.holds Try.pinned (OpenSpec.ofChange eventBackWrong)

/-- 'vedettelaw15.EventSpoils': WHATEVER THE INPUT: true; the input reads as it did. -/
def eventSpoilsSpec : ChangeSpec := { name := "eventSpoils", fn := fun _ => fun
  | [d1, d2] => { results := [.lit (.bool true)], args := [d1, d2] }
  | _ => none }
def eventSpoilsRow : OpenClaim := { program := "ytobeamaaifgllaa", sum := "1450fb6d2270fb1b9571ba9478d8d8bdc74ab7e4af5244f4e9ed4ac1969b4bf1", func := "vedette/vedettelaw15.EventSpoils", spec := "eventSpoils", inPlace := ["internal/abi.NoEscape", "slices.overlaps[vedette/api.Thing]"], unfollowed := true, recurses := true, apart := false }
def EventSpoilsSaid : Prop := eventSpoilsRow.holds Try.pinned (OpenSpec.ofChange eventSpoilsSpec)

/-- ITS FALSE NEIGHBOUR: 'it returns false'. Refute it at one input. -/
def eventSpoilsWrong : ChangeSpec := { name := "eventSpoils", fn := fun _ => fun
  | [d1, d2] => { results := [.lit (.bool false)], args := [d1, d2] }
  | _ => none }
def EventSpoilsWrongFalsely : Prop := eventSpoilsRow.holds Try.pinned (OpenSpec.ofChange eventSpoilsWrong)

/-- 'vedettelaw15.EventSpan': WHATEVER THE INPUT: true; the input reads as it did. -/
def eventSpanSpec : ChangeSpec := { name := "eventSpan", fn := fun _ => fun
  | [d1, d2] => { results := [.lit (.bool true)], args := [d1, d2] }
  | _ => none }
def eventSpanRow : OpenClaim := { program := "ytobeamaaifgllaa", sum := "1450fb6d2270fb1b9571ba9478d8d8bdc74ab7e4af5244f4e9ed4ac1969b4bf1", func := "vedette/vedettelaw15.EventSpan", spec := "eventSpan", inPlace := ["internal/abi.NoEscape", "slices.overlaps[vedette/api.Thing]"], unfollowed := true, recurses := true, apart := false }
def EventSpanSaid : Prop := eventSpanRow.holds Try.pinned (OpenSpec.ofChange eventSpanSpec)

/-- ITS FALSE NEIGHBOUR: 'it returns false'. Refute it at one input. -/
def eventSpanWrong : ChangeSpec := { name := "eventSpan", fn := fun _ => fun
  | [d1, d2] => { results := [.lit (.bool false)], args := [d1, d2] }
  | _ => none }
def EventSpanWrongFalsely : Prop := eventSpanRow.holds Try.pinned (OpenSpec.ofChange eventSpanWrong)

/- THE SECOND FORM. 'bulk': how many values and letters a reading holds, each counted each time it is reached (what is shared counts as often as it is met; a slice's spare places count too). A statement '..UptoSaid' is the law's where the arguments, and the package variables that the reading takes, are together of bulk at most 1048576: NARROWER than '..Said'. Prove '..Said' where nothing that the law and all that it calls make is longer than what came in: it says more and counts as full. Else prove '..UptoSaid'. A law counts once. -/
mutual
def uptoBulk {H : Type} : DataW H → Nat
  | .lit (.string bytes) => bytes.length + 1
  | .lit _ => 1
  | .nil => 1
  | .ptr d => uptoBulk d + 1
  | .slice elems spare => uptoBulkAll elems + uptoBulkAll spare + 1
  | .agg parts => uptoBulkAll parts + 1
  | .iface _ d => uptoBulk d + 1
  | .map entries => uptoBulkEntries entries + 1
  | .held _ => 1
def uptoBulkAll {H : Type} : List (DataW H) → Nat
  | [] => 0
  | d :: r => uptoBulk d + uptoBulkAll r
def uptoBulkEntries {H : Type} : List (Lit × DataW H) → Nat
  | [] => 0
  | x :: r => uptoBulkEntry x + uptoBulkEntries r
def uptoBulkEntry {H : Type} : Lit × DataW H → Nat
  | (.string bytes, d) => bytes.length + uptoBulk d + 1
  | (_, d) => uptoBulk d + 1
 end
def uptoSmall : (H : Type) → List (DataW H) → Bool := fun _ ds => decide (uptoBulkAll ds ≤ 1048576)
def OpenSpec.upto (s : _root_.Go.ChangeSpec) : _root_.Go.OpenSpec := { _root_.Go.OpenSpec.ofChange s with cond := some uptoSmall }

/-- 'vedettelaw7.ThingTells', WHERE WHAT IT READS IS OF BULK AT MOST 1048576: true; the input reads as it did. -/
def thingTellsUptoRow : OpenClaim := { program := "ytobeamaaifgllaa", sum := "1450fb6d2270fb1b9571ba9478d8d8bdc74ab7e4af5244f4e9ed4ac1969b4bf1", func := "vedette/vedettelaw7.ThingTells", spec := "thingTells", inPlace := ["internal/abi.NoEscape"], unfollowed := true, recurses := true, apart := false, narrowed := true }
def ThingTellsUptoSaid : Prop := thingTellsUptoRow.holds Try.pinned (OpenSpec.upto thingTellsSpec)

/-- 'vedettelaw7.ThingReads', WHERE WHAT IT READS IS OF BULK AT MOST 1048576: true; the input reads as it did. -/
def thingReadsUptoRow : OpenClaim := { program := "ytobeamaaifgllaa", sum := "1450fb6d2270fb1b9571ba9478d8d8bdc74ab7e4af5244f4e9ed4ac1969b4bf1", func := "vedette/vedettelaw7.ThingReads", spec := "thingReads", inPlace := ["internal/abi.NoEscape"], unfollowed := true, recurses := true, apart := false, narrowed := true }
def ThingReadsUptoSaid : Prop := thingReadsUptoRow.holds Try.pinned (OpenSpec.upto thingReadsSpec)

/-- 'vedettelaw7.ThingBack', WHERE WHAT IT READS IS OF BULK AT MOST 1048576: true; the input reads as it did. -/
def thingBackUptoRow : OpenClaim := { program := "ytobeamaaifgllaa", sum := "1450fb6d2270fb1b9571ba9478d8d8bdc74ab7e4af5244f4e9ed4ac1969b4bf1", func := "vedette/vedettelaw7.ThingBack", spec := "thingBack", inPlace := ["internal/abi.NoEscape"], unfollowed := true, recurses := true, apart := false, narrowed := true }
def ThingBackUptoSaid : Prop := thingBackUptoRow.holds Try.pinned (OpenSpec.upto thingBackSpec)

/-- 'vedettelaw7.ThingNumbers', WHERE WHAT IT READS IS OF BULK AT MOST 1048576: true; the input reads as it did. -/
def thingNumbersUptoRow : OpenClaim := { program := "ytobeamaaifgllaa", sum := "1450fb6d2270fb1b9571ba9478d8d8bdc74ab7e4af5244f4e9ed4ac1969b4bf1", func := "vedette/vedettelaw7.ThingNumbers", spec := "thingNumbers", inPlace := ["internal/abi.NoEscape"], unfollowed := true, recurses := true, apart := false, narrowed := true }
def ThingNumbersUptoSaid : Prop := thingNumbersUptoRow.holds Try.pinned (OpenSpec.upto thingNumbersSpec)

/-- 'vedettelaw7.ThingRows', WHERE WHAT IT READS IS OF BULK AT MOST 1048576: true; the input reads as it did. -/
def thingRowsUptoRow : OpenClaim := { program := "ytobeamaaifgllaa", sum := "1450fb6d2270fb1b9571ba9478d8d8bdc74ab7e4af5244f4e9ed4ac1969b4bf1", func := "vedette/vedettelaw7.ThingRows", spec := "thingRows", inPlace := ["internal/abi.NoEscape"], unfollowed := true, recurses := true, apart := false, narrowed := true }
def ThingRowsUptoSaid : Prop := thingRowsUptoRow.holds Try.pinned (OpenSpec.upto thingRowsSpec)

/-- 'vedettelaw7.ThingMany', WHERE WHAT IT READS IS OF BULK AT MOST 1048576: true; the input reads as it did. -/
def thingManyUptoRow : OpenClaim := { program := "ytobeamaaifgllaa", sum := "1450fb6d2270fb1b9571ba9478d8d8bdc74ab7e4af5244f4e9ed4ac1969b4bf1", func := "vedette/vedettelaw7.ThingMany", spec := "thingMany", inPlace := ["internal/abi.NoEscape"], unfollowed := true, recurses := true, apart := false, narrowed := true }
def ThingManyUptoSaid : Prop := thingManyUptoRow.holds Try.pinned (OpenSpec.upto thingManySpec)

/-- 'vedettelaw16.DiffFolds', WHERE WHAT IT READS IS OF BULK AT MOST 1048576: true; the input reads as it did. -/
def diffFoldsUptoRow : OpenClaim := { program := "ytobeamaaifgllaa", sum := "1450fb6d2270fb1b9571ba9478d8d8bdc74ab7e4af5244f4e9ed4ac1969b4bf1", func := "vedette/vedettelaw16.DiffFolds", spec := "diffFolds", inPlace := ["slices.overlaps[vedette/api.Thing]"], unfollowed := true, recurses := true, apart := false, narrowed := true }
def DiffFoldsUptoSaid : Prop := diffFoldsUptoRow.holds Try.pinned (OpenSpec.upto diffFoldsSpec)

/-- 'vedettelaw15.EventTells', WHERE WHAT IT READS IS OF BULK AT MOST 1048576: true; the input reads as it did. -/
def eventTellsUptoRow : OpenClaim := { program := "ytobeamaaifgllaa", sum := "1450fb6d2270fb1b9571ba9478d8d8bdc74ab7e4af5244f4e9ed4ac1969b4bf1", func := "vedette/vedettelaw15.EventTells", spec := "eventTells", inPlace := ["internal/abi.NoEscape", "slices.overlaps[vedette/api.Thing]"], unfollowed := true, recurses := true, apart := false, narrowed := true }
def EventTellsUptoSaid : Prop := eventTellsUptoRow.holds Try.pinned (OpenSpec.upto eventTellsSpec)

/-- 'vedettelaw15.EventReads', WHERE WHAT IT READS IS OF BULK AT MOST 1048576: true; the input reads as it did. -/
def eventReadsUptoRow : OpenClaim := { program := "ytobeamaaifgllaa", sum := "1450fb6d2270fb1b9571ba9478d8d8bdc74ab7e4af5244f4e9ed4ac1969b4bf1", func := "vedette/vedettelaw15.EventReads", spec := "eventReads", inPlace := ["internal/abi.NoEscape", "slices.overlaps[vedette/api.Thing]"], unfollowed := true, recurses := true, apart := false, narrowed := true }
def EventReadsUptoSaid : Prop := eventReadsUptoRow.holds Try.pinned (OpenSpec.upto eventReadsSpec)

/-- 'vedettelaw15.EventBack', WHERE WHAT IT READS IS OF BULK AT MOST 1048576: true; the input reads as it did. -/
def eventBackUptoRow : OpenClaim := { program := "ytobeamaaifgllaa", sum := "1450fb6d2270fb1b9571ba9478d8d8bdc74ab7e4af5244f4e9ed4ac1969b4bf1", func := "vedette/vedettelaw15.EventBack", spec := "eventBack", inPlace := ["internal/abi.NoEscape", "slices.overlaps[vedette/api.Thing]"], unfollowed := true, recurses := true, apart := false, narrowed := true }
def EventBackUptoSaid : Prop := eventBackUptoRow.holds Try.pinned (OpenSpec.upto eventBackSpec)

/-- 'vedettelaw15.EventSpoils', WHERE WHAT IT READS IS OF BULK AT MOST 1048576: true; the input reads as it did. -/
def eventSpoilsUptoRow : OpenClaim := { program := "ytobeamaaifgllaa", sum := "1450fb6d2270fb1b9571ba9478d8d8bdc74ab7e4af5244f4e9ed4ac1969b4bf1", func := "vedette/vedettelaw15.EventSpoils", spec := "eventSpoils", inPlace := ["internal/abi.NoEscape", "slices.overlaps[vedette/api.Thing]"], unfollowed := true, recurses := true, apart := false, narrowed := true }
def EventSpoilsUptoSaid : Prop := eventSpoilsUptoRow.holds Try.pinned (OpenSpec.upto eventSpoilsSpec)

/-- 'vedettelaw15.EventSpan', WHERE WHAT IT READS IS OF BULK AT MOST 1048576: true; the input reads as it did. -/
def eventSpanUptoRow : OpenClaim := { program := "ytobeamaaifgllaa", sum := "1450fb6d2270fb1b9571ba9478d8d8bdc74ab7e4af5244f4e9ed4ac1969b4bf1", func := "vedette/vedettelaw15.EventSpan", spec := "eventSpan", inPlace := ["internal/abi.NoEscape", "slices.overlaps[vedette/api.Thing]"], unfollowed := true, recurses := true, apart := false, narrowed := true }
def EventSpanUptoSaid : Prop := eventSpanUptoRow.holds Try.pinned (OpenSpec.upto eventSpanSpec)

end Rows
end Go.Proofs.Ytobeamaaifgllaa
