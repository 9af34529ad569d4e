/-
  No cell of these rows narrows 'for every input' (looked for: loops, veiled, ifaces, maps, wideKeys, modest, calm, conditions, laid).
  DERIVED. THE GIVEN ROWS OF THIS SEAT. 11 by the template 'for every input the law returns true; each argument reads behind the call as it read before'; 0 by the template 'total and deterministic' (their statements: YthmbegagkgdopaaTotals.lean).
  GIVEN WITH THE SEED: the statements are not yours to turn. If you find one false, say at which input.
  Laid BY PROGRAM, IN A SANDBOX (cutbox-rows.mjs): the forced cells as the released guide's own fill.sh prints them over the translation 40c7607734f3dc94… (all of the seat's roots in one cut). By AI agents, Wed Nov 11 2026. No macro, syntax, notation, axiom, sorry.
-/
import Derived.Test.YthmbegagkgdopaaChecked
import GoSem.Claim
import GoSem.ClaimJoined
import GoSem.ClaimMapViews
import Derived.JoinedTies
import Derived.KernelRfl
namespace Go.Proofs.Ythmbegagkgdopaa
/- THE CELL 'sum', in the pinned program and in every row, IS THE sha256 OF THE DUMP (.gsa) THAT YthmbegagkgdopaaProg.lean LOADS. Nothing in Lean hashes anything: it is a label: what it is worth is what the hold of that sum in a sandbox is worth. -/
noncomputable def Try.pinned : Pinned := { name := "ythmbegagkgdopaa", sum := "40c7607734f3dc9428835d296615f20bd6dff80d28c75085c7bff9f399ff1d24", checked := Try.checked }
namespace Rows
def none {H : Type} : Left H := { results := [], args := [] }

/-- 'vedettelaw6.FieldsTell': WHATEVER THE INPUT: true; the input reads as it did. -/
def fieldsTellSpec : ChangeSpec := { name := "fieldsTell", fn := fun _ => fun
  | [d1, d2, d3, d4] => { results := [.lit (.bool true)], args := [d1, d2, d3, d4] }
  | _ => none }
def fieldsTellRow : OpenClaim := { program := "ythmbegagkgdopaa", sum := "40c7607734f3dc9428835d296615f20bd6dff80d28c75085c7bff9f399ff1d24", func := "vedette/vedettelaw6.FieldsTell", spec := "fieldsTell", apart := false }
def FieldsTellSaid : Prop := fieldsTellRow.holds Try.pinned (OpenSpec.ofChange fieldsTellSpec)

/-- ITS FALSE NEIGHBOUR: 'it returns false'. Refute it at one input. -/
def fieldsTellWrong : ChangeSpec := { name := "fieldsTell", fn := fun _ => fun
  | [d1, d2, d3, d4] => { results := [.lit (.bool false)], args := [d1, d2, d3, d4] }
  | _ => none }
def FieldsTellWrongFalsely : Prop := fieldsTellRow.holds Try.pinned (OpenSpec.ofChange fieldsTellWrong)

/-- 'vedettelaw6.FieldsRead': WHATEVER THE INPUT: true; the input reads as it did. -/
def fieldsReadSpec : ChangeSpec := { name := "fieldsRead", fn := fun _ => fun
  | [d] => { results := [.lit (.bool true)], args := [d] }
  | _ => none }
def fieldsReadRow : OpenClaim := { program := "ythmbegagkgdopaa", sum := "40c7607734f3dc9428835d296615f20bd6dff80d28c75085c7bff9f399ff1d24", func := "vedette/vedettelaw6.FieldsRead", spec := "fieldsRead", apart := false }
def FieldsReadSaid : Prop := fieldsReadRow.holds Try.pinned (OpenSpec.ofChange fieldsReadSpec)

/-- ITS FALSE NEIGHBOUR: 'it returns false'. Refute it at one input. -/
def fieldsReadWrong : ChangeSpec := { name := "fieldsRead", fn := fun _ => fun
  | [d] => { results := [.lit (.bool false)], args := [d] }
  | _ => none }
def FieldsReadWrongFalsely : Prop := fieldsReadRow.holds Try.pinned (OpenSpec.ofChange fieldsReadWrong)

/-- 'vedettelaw6.FieldsBack': WHATEVER THE INPUT: true; the input reads as it did. -/
def fieldsBackSpec : ChangeSpec := { name := "fieldsBack", fn := fun _ => fun
  | [d1, d2, d3] => { results := [.lit (.bool true)], args := [d1, d2, d3] }
  | _ => none }
def fieldsBackRow : OpenClaim := { program := "ythmbegagkgdopaa", sum := "40c7607734f3dc9428835d296615f20bd6dff80d28c75085c7bff9f399ff1d24", func := "vedette/vedettelaw6.FieldsBack", spec := "fieldsBack", apart := false }
def FieldsBackSaid : Prop := fieldsBackRow.holds Try.pinned (OpenSpec.ofChange fieldsBackSpec)

/-- ITS FALSE NEIGHBOUR: 'it returns false'. Refute it at one input. -/
def fieldsBackWrong : ChangeSpec := { name := "fieldsBack", fn := fun _ => fun
  | [d1, d2, d3] => { results := [.lit (.bool false)], args := [d1, d2, d3] }
  | _ => none }
def FieldsBackWrongFalsely : Prop := fieldsBackRow.holds Try.pinned (OpenSpec.ofChange fieldsBackWrong)

/-- 'vedettelaw6.FieldsChain': WHATEVER THE INPUT: true; the input reads as it did. -/
def fieldsChainSpec : ChangeSpec := { name := "fieldsChain", fn := fun _ => fun
  | [d1, d2, d3] => { results := [.lit (.bool true)], args := [d1, d2, d3] }
  | _ => none }
def fieldsChainRow : OpenClaim := { program := "ythmbegagkgdopaa", sum := "40c7607734f3dc9428835d296615f20bd6dff80d28c75085c7bff9f399ff1d24", func := "vedette/vedettelaw6.FieldsChain", spec := "fieldsChain", apart := false }
def FieldsChainSaid : Prop := fieldsChainRow.holds Try.pinned (OpenSpec.ofChange fieldsChainSpec)

/-- ITS FALSE NEIGHBOUR: 'it returns false'. Refute it at one input. -/
def fieldsChainWrong : ChangeSpec := { name := "fieldsChain", fn := fun _ => fun
  | [d1, d2, d3] => { results := [.lit (.bool false)], args := [d1, d2, d3] }
  | _ => none }
def FieldsChainWrongFalsely : Prop := fieldsChainRow.holds Try.pinned (OpenSpec.ofChange fieldsChainWrong)

/-- 'vedettelaw6.FieldsOne': WHATEVER THE INPUT: true; the input reads as it did. -/
def fieldsOneSpec : ChangeSpec := { name := "fieldsOne", fn := fun _ => fun
  | [d1, d2, d3] => { results := [.lit (.bool true)], args := [d1, d2, d3] }
  | _ => none }
def fieldsOneRow : OpenClaim := { program := "ythmbegagkgdopaa", sum := "40c7607734f3dc9428835d296615f20bd6dff80d28c75085c7bff9f399ff1d24", func := "vedette/vedettelaw6.FieldsOne", spec := "fieldsOne", apart := false }
def FieldsOneSaid : Prop := fieldsOneRow.holds Try.pinned (OpenSpec.ofChange fieldsOneSpec)

/-- ITS FALSE NEIGHBOUR: 'it returns false'. Refute it at one input. -/
def fieldsOneWrong : ChangeSpec := { name := "fieldsOne", fn := fun _ => fun
  | [d1, d2, d3] => { results := [.lit (.bool false)], args := [d1, d2, d3] }
  | _ => none }
def FieldsOneWrongFalsely : Prop := fieldsOneRow.holds Try.pinned (OpenSpec.ofChange fieldsOneWrong)

/-- 'vedettelaw6.FieldsSpoils': WHATEVER THE INPUT: true; the input reads as it did. -/
def fieldsSpoilsSpec : ChangeSpec := { name := "fieldsSpoils", fn := fun _ => fun
  | [d1, d2] => { results := [.lit (.bool true)], args := [d1, d2] }
  | _ => none }
def fieldsSpoilsRow : OpenClaim := { program := "ythmbegagkgdopaa", sum := "40c7607734f3dc9428835d296615f20bd6dff80d28c75085c7bff9f399ff1d24", func := "vedette/vedettelaw6.FieldsSpoils", spec := "fieldsSpoils", apart := false }
def FieldsSpoilsSaid : Prop := fieldsSpoilsRow.holds Try.pinned (OpenSpec.ofChange fieldsSpoilsSpec)

/-- ITS FALSE NEIGHBOUR: 'it returns false'. Refute it at one input. -/
def fieldsSpoilsWrong : ChangeSpec := { name := "fieldsSpoils", fn := fun _ => fun
  | [d1, d2] => { results := [.lit (.bool false)], args := [d1, d2] }
  | _ => none }
def FieldsSpoilsWrongFalsely : Prop := fieldsSpoilsRow.holds Try.pinned (OpenSpec.ofChange fieldsSpoilsWrong)

/-- 'vedettelaw10.CmdTells': WHATEVER THE INPUT: true; the input reads as it did. -/
def cmdTellsSpec : ChangeSpec := { name := "cmdTells", fn := fun _ => fun
  | [d1, d2] => { results := [.lit (.bool true)], args := [d1, d2] }
  | _ => none }
def cmdTellsRow : OpenClaim := { program := "ythmbegagkgdopaa", sum := "40c7607734f3dc9428835d296615f20bd6dff80d28c75085c7bff9f399ff1d24", func := "vedette/vedettelaw10.CmdTells", spec := "cmdTells", unfollowed := true, recurses := true, apart := false }
def CmdTellsSaid : Prop := cmdTellsRow.holds Try.pinned (OpenSpec.ofChange cmdTellsSpec)

/-- ITS FALSE NEIGHBOUR: 'it returns false'. Refute it at one input. -/
def cmdTellsWrong : ChangeSpec := { name := "cmdTells", fn := fun _ => fun
  | [d1, d2] => { results := [.lit (.bool false)], args := [d1, d2] }
  | _ => none }
def CmdTellsWrongFalsely : Prop := cmdTellsRow.holds Try.pinned (OpenSpec.ofChange cmdTellsWrong)

/-- 'vedettelaw10.CmdBack': WHATEVER THE INPUT: true; the input reads as it did. -/
def cmdBackSpec : ChangeSpec := { name := "cmdBack", fn := fun _ => fun
  | [d1, d2, d3, d4] => { results := [.lit (.bool true)], args := [d1, d2, d3, d4] }
  | _ => none }
def cmdBackRow : OpenClaim := { program := "ythmbegagkgdopaa", sum := "40c7607734f3dc9428835d296615f20bd6dff80d28c75085c7bff9f399ff1d24", func := "vedette/vedettelaw10.CmdBack", spec := "cmdBack", unfollowed := true, recurses := true, apart := false }
def CmdBackSaid : Prop := cmdBackRow.holds Try.pinned (OpenSpec.ofChange cmdBackSpec)

/-- ITS FALSE NEIGHBOUR: 'it returns false'. Refute it at one input. -/
def cmdBackWrong : ChangeSpec := { name := "cmdBack", fn := fun _ => fun
  | [d1, d2, d3, d4] => { results := [.lit (.bool false)], args := [d1, d2, d3, d4] }
  | _ => none }
def CmdBackWrongFalsely : Prop := cmdBackRow.holds Try.pinned (OpenSpec.ofChange cmdBackWrong)

/-- 'vedettelaw10.CmdReads': WHATEVER THE INPUT: true; the input reads as it did. -/
def cmdReadsSpec : ChangeSpec := { name := "cmdReads", fn := fun _ => fun
  | [d1, d2, d3, d4] => { results := [.lit (.bool true)], args := [d1, d2, d3, d4] }
  | _ => none }
def cmdReadsRow : OpenClaim := { program := "ythmbegagkgdopaa", sum := "40c7607734f3dc9428835d296615f20bd6dff80d28c75085c7bff9f399ff1d24", func := "vedette/vedettelaw10.CmdReads", spec := "cmdReads", unfollowed := true, recurses := true, apart := false }
def CmdReadsSaid : Prop := cmdReadsRow.holds Try.pinned (OpenSpec.ofChange cmdReadsSpec)

/-- ITS FALSE NEIGHBOUR: 'it returns false'. Refute it at one input. -/
def cmdReadsWrong : ChangeSpec := { name := "cmdReads", fn := fun _ => fun
  | [d1, d2, d3, d4] => { results := [.lit (.bool false)], args := [d1, d2, d3, d4] }
  | _ => none }
def CmdReadsWrongFalsely : Prop := cmdReadsRow.holds Try.pinned (OpenSpec.ofChange cmdReadsWrong)

/-- 'vedettelaw10.CmdSpoils': WHATEVER THE INPUT: true; the input reads as it did. -/
def cmdSpoilsSpec : ChangeSpec := { name := "cmdSpoils", fn := fun _ => fun
  | [d1, d2] => { results := [.lit (.bool true)], args := [d1, d2] }
  | _ => none }
def cmdSpoilsRow : OpenClaim := { program := "ythmbegagkgdopaa", sum := "40c7607734f3dc9428835d296615f20bd6dff80d28c75085c7bff9f399ff1d24", func := "vedette/vedettelaw10.CmdSpoils", spec := "cmdSpoils", unfollowed := true, recurses := true, apart := false }
def CmdSpoilsSaid : Prop := cmdSpoilsRow.holds Try.pinned (OpenSpec.ofChange cmdSpoilsSpec)

/-- ITS FALSE NEIGHBOUR: 'it returns false'. Refute it at one input. -/
def cmdSpoilsWrong : ChangeSpec := { name := "cmdSpoils", fn := fun _ => fun
  | [d1, d2] => { results := [.lit (.bool false)], args := [d1, d2] }
  | _ => none }
def CmdSpoilsWrongFalsely : Prop := cmdSpoilsRow.holds Try.pinned (OpenSpec.ofChange cmdSpoilsWrong)

/-- 'vedettelaw10.CmdRows': WHATEVER THE INPUT: true; the input reads as it did. -/
def cmdRowsSpec : ChangeSpec := { name := "cmdRows", fn := fun _ => fun
  | [d] => { results := [.lit (.bool true)], args := [d] }
  | _ => none }
def cmdRowsRow : OpenClaim := { program := "ythmbegagkgdopaa", sum := "40c7607734f3dc9428835d296615f20bd6dff80d28c75085c7bff9f399ff1d24", func := "vedette/vedettelaw10.CmdRows", spec := "cmdRows", unfollowed := true, recurses := true, apart := false }
def CmdRowsSaid : Prop := cmdRowsRow.holds Try.pinned (OpenSpec.ofChange cmdRowsSpec)

/-- ITS FALSE NEIGHBOUR: 'it returns false'. Refute it at one input. -/
def cmdRowsWrong : ChangeSpec := { name := "cmdRows", fn := fun _ => fun
  | [d] => { results := [.lit (.bool false)], args := [d] }
  | _ => none }
def CmdRowsWrongFalsely : Prop := cmdRowsRow.holds Try.pinned (OpenSpec.ofChange cmdRowsWrong)

/- THE SECOND FORM. 'bulk': how many values and letters a reading holds, each counted each time it is reached (what is shared counts as often as it is met; a slice's spare places count too). A statement '..UptoSaid' is the law's where the arguments, and the package variables that the reading takes, are together of bulk at most 1048576: NARROWER than '..Said'. Prove '..Said' where nothing that the law and all that it calls make is longer than what came in: it says more and counts as full. Else prove '..UptoSaid'. A law counts once. -/
mutual
def uptoBulk {H : Type} : DataW H → Nat
  | .lit (.string bytes) => bytes.length + 1
  | .lit _ => 1
  | .nil => 1
  | .ptr d => uptoBulk d + 1
  | .slice elems spare => uptoBulkAll elems + uptoBulkAll spare + 1
  | .agg parts => uptoBulkAll parts + 1
  | .iface _ d => uptoBulk d + 1
  | .map entries => uptoBulkEntries entries + 1
  | .held _ => 1
def uptoBulkAll {H : Type} : List (DataW H) → Nat
  | [] => 0
  | d :: r => uptoBulk d + uptoBulkAll r
def uptoBulkEntries {H : Type} : List (Lit × DataW H) → Nat
  | [] => 0
  | x :: r => uptoBulkEntry x + uptoBulkEntries r
def uptoBulkEntry {H : Type} : Lit × DataW H → Nat
  | (.string bytes, d) => bytes.length + uptoBulk d + 1
  | (_, d) => uptoBulk d + 1
 end
def uptoSmall : (H : Type) → List (DataW H) → Bool := fun _ ds => decide (uptoBulkAll ds ≤ 1048576)
def OpenSpec.upto (s : _root_.Go.ChangeSpec) : _root_.Go.OpenSpec := { _root_.Go.OpenSpec.ofChange s with cond := some uptoSmall }

/-- 'vedettelaw6.FieldsTell', WHERE WHAT IT READS IS OF BULK AT MOST 1048576: true; the input reads as it did. -/
def fieldsTellUptoRow : OpenClaim := { program := "ythmbegagkgdopaa", sum := "40c7607734f3dc9428835d296615f20bd6dff80d28c75085c7bff9f399ff1d24", func := "vedette/vedettelaw6.FieldsTell", spec := "fieldsTell", apart := false, narrowed := true }
def FieldsTellUptoSaid : Prop := fieldsTellUptoRow.holds Try.pinned (OpenSpec.upto fieldsTellSpec)

/-- 'vedettelaw6.FieldsRead', WHERE WHAT IT READS IS OF BULK AT MOST 1048576: true; the input reads as it did. -/
def fieldsReadUptoRow : OpenClaim := { program := "ythmbegagkgdopaa", sum := "40c7607734f3dc9428835d296615f20bd6dff80d28c75085c7bff9f399ff1d24", func := "vedette/vedettelaw6.FieldsRead", spec := "fieldsRead", apart := false, narrowed := true }
def FieldsReadUptoSaid : Prop := fieldsReadUptoRow.holds Try.pinned (OpenSpec.upto fieldsReadSpec)

/-- 'vedettelaw6.FieldsBack', WHERE WHAT IT READS IS OF BULK AT MOST 1048576: true; the input reads as it did. -/
def fieldsBackUptoRow : OpenClaim := { program := "ythmbegagkgdopaa", sum := "40c7607734f3dc9428835d296615f20bd6dff80d28c75085c7bff9f399ff1d24", func := "vedette/vedettelaw6.FieldsBack", spec := "fieldsBack", apart := false, narrowed := true }
def FieldsBackUptoSaid : Prop := fieldsBackUptoRow.holds Try.pinned (OpenSpec.upto fieldsBackSpec)

/-- 'vedettelaw6.FieldsChain', WHERE WHAT IT READS IS OF BULK AT MOST 1048576: true; the input reads as it did. -/
def fieldsChainUptoRow : OpenClaim := { program := "ythmbegagkgdopaa", sum := "40c7607734f3dc9428835d296615f20bd6dff80d28c75085c7bff9f399ff1d24", func := "vedette/vedettelaw6.FieldsChain", spec := "fieldsChain", apart := false, narrowed := true }
def FieldsChainUptoSaid : Prop := fieldsChainUptoRow.holds Try.pinned (OpenSpec.upto fieldsChainSpec)

/-- 'vedettelaw6.FieldsOne', WHERE WHAT IT READS IS OF BULK AT MOST 1048576: true; the input reads as it did. -/
def fieldsOneUptoRow : OpenClaim := { program := "ythmbegagkgdopaa", sum := "40c7607734f3dc9428835d296615f20bd6dff80d28c75085c7bff9f399ff1d24", func := "vedette/vedettelaw6.FieldsOne", spec := "fieldsOne", apart := false, narrowed := true }
def FieldsOneUptoSaid : Prop := fieldsOneUptoRow.holds Try.pinned (OpenSpec.upto fieldsOneSpec)

/-- 'vedettelaw6.FieldsSpoils', WHERE WHAT IT READS IS OF BULK AT MOST 1048576: true; the input reads as it did. -/
def fieldsSpoilsUptoRow : OpenClaim := { program := "ythmbegagkgdopaa", sum := "40c7607734f3dc9428835d296615f20bd6dff80d28c75085c7bff9f399ff1d24", func := "vedette/vedettelaw6.FieldsSpoils", spec := "fieldsSpoils", apart := false, narrowed := true }
def FieldsSpoilsUptoSaid : Prop := fieldsSpoilsUptoRow.holds Try.pinned (OpenSpec.upto fieldsSpoilsSpec)

/-- 'vedettelaw10.CmdTells', WHERE WHAT IT READS IS OF BULK AT MOST 1048576: true; the input reads as it did. -/
def cmdTellsUptoRow : OpenClaim := { program := "ythmbegagkgdopaa", sum := "40c7607734f3dc9428835d296615f20bd6dff80d28c75085c7bff9f399ff1d24", func := "vedette/vedettelaw10.CmdTells", spec := "cmdTells", unfollowed := true, recurses := true, apart := false, narrowed := true }
def CmdTellsUptoSaid : Prop := cmdTellsUptoRow.holds Try.pinned (OpenSpec.upto cmdTellsSpec)

/-- 'vedettelaw10.CmdBack', WHERE WHAT IT READS IS OF BULK AT MOST 1048576: true; the input reads as it did. -/
def cmdBackUptoRow : OpenClaim := { program := "ythmbegagkgdopaa", sum := "40c7607734f3dc9428835d296615f20bd6dff80d28c75085c7bff9f399ff1d24", func := "vedette/vedettelaw10.CmdBack", spec := "cmdBack", unfollowed := true, recurses := true, apart := false, narrowed := true }
def CmdBackUptoSaid : Prop := cmdBackUptoRow.holds Try.pinned (OpenSpec.upto cmdBackSpec)

/-- 'vedettelaw10.CmdReads', WHERE WHAT IT READS IS OF BULK AT MOST 1048576: true; the input reads as it did. -/
def cmdReadsUptoRow : OpenClaim := { program := "ythmbegagkgdopaa", sum := "40c7607734f3dc9428835d296615f20bd6dff80d28c75085c7bff9f399ff1d24", func := "vedette/vedettelaw10.CmdReads", spec := "cmdReads", unfollowed := true, recurses := true, apart := false, narrowed := true }
def CmdReadsUptoSaid : Prop := cmdReadsUptoRow.holds Try.pinned (OpenSpec.upto cmdReadsSpec)

/-- 'vedettelaw10.CmdSpoils', WHERE WHAT IT READS IS OF BULK AT MOST 1048576: true; the input reads as it did. -/
def cmdSpoilsUptoRow : OpenClaim := { program := "ythmbegagkgdopaa", sum := "40c7607734f3dc9428835d296615f20bd6dff80d28c75085c7bff9f399ff1d24", func := "vedette/vedettelaw10.CmdSpoils", spec := "cmdSpoils", unfollowed := true, recurses := true, apart := false, narrowed := true }
def CmdSpoilsUptoSaid : Prop := cmdSpoilsUptoRow.holds Try.pinned (OpenSpec.upto cmdSpoilsSpec)

/-- 'vedettelaw10.CmdRows', WHERE WHAT IT READS IS OF BULK AT MOST 1048576: true; the input reads as it did. -/
def cmdRowsUptoRow : OpenClaim := { program := "ythmbegagkgdopaa", sum := "40c7607734f3dc9428835d296615f20bd6dff80d28c75085c7bff9f399ff1d24", func := "vedette/vedettelaw10.CmdRows", spec := "cmdRows", unfollowed := true, recurses := true, apart := false, narrowed := true }
def CmdRowsUptoSaid : Prop := cmdRowsUptoRow.holds Try.pinned (OpenSpec.upto cmdRowsSpec)

end Rows
end Go.Proofs.Ythmbegagkgdopaa
