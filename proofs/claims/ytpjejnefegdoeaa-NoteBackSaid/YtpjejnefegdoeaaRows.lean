/-
  No cell of these rows narrows 'for every input' (looked for: loops, veiled, ifaces, maps, wideKeys, modest, calm, conditions, laid).
  DERIVED. THE GIVEN ROWS OF THIS SEAT. 4 by the template 'for every input the law returns true; each argument reads behind the call as it read before'; 0 by the template 'total and deterministic' (their statements: YtpjejnefegdoeaaTotals.lean).
  GIVEN WITH THE SEED: the statements are not yours to turn. If you find one false, say at which input.
  Laid BY PROGRAM, IN A SANDBOX (cutbox-rows.mjs): the forced cells as the released guide's own fill.sh prints them over the translation b73d34172b6711a2… (all of the seat's roots in one cut). By AI agents, Wed Nov 11 2026. No macro, syntax, notation, axiom, sorry.
-/
import Derived.Test.YtpjejnefegdoeaaChecked
import GoSem.Claim
import GoSem.ClaimJoined
import GoSem.ClaimMapViews
import Derived.JoinedTies
import Derived.KernelRfl
namespace Go.Proofs.Ytpjejnefegdoeaa
/- THE CELL 'sum', in the pinned program and in every row, IS THE sha256 OF THE DUMP (.gsa) THAT YtpjejnefegdoeaaProg.lean LOADS. Nothing in Lean hashes anything: it is a label: what it is worth is what the hold of that sum in a sandbox is worth. -/
noncomputable def Try.pinned : Pinned := { name := "ytpjejnefegdoeaa", sum := "b73d34172b6711a2462ad44cc9df2eaf1e9d8969b367a86dde00930caa5179a3", checked := Try.checked }
namespace Rows
def none {H : Type} : Left H := { results := [], args := [] }

/-- 'vedettelaw17.NoteTells': WHATEVER THE INPUT: true; the input reads as it did. -/
def noteTellsSpec : ChangeSpec := { name := "noteTells", fn := fun _ => fun
  | [d1, d2, d3] => { results := [.lit (.bool true)], args := [d1, d2, d3] }
  | _ => none }
def noteTellsRow : OpenClaim := { program := "ytpjejnefegdoeaa", sum := "b73d34172b6711a2462ad44cc9df2eaf1e9d8969b367a86dde00930caa5179a3", func := "vedette/vedettelaw17.NoteTells", spec := "noteTells", inPlace := ["internal/abi.NoEscape"], unfollowed := true, recurses := true, apart := false }
def NoteTellsSaid : Prop := noteTellsRow.holds Try.pinned (OpenSpec.ofChange noteTellsSpec)

/-- ITS FALSE NEIGHBOUR: 'it returns false'. Refute it at one input. -/
def noteTellsWrong : ChangeSpec := { name := "noteTells", fn := fun _ => fun
  | [d1, d2, d3] => { results := [.lit (.bool false)], args := [d1, d2, d3] }
  | _ => none }
def NoteTellsWrongFalsely : Prop := noteTellsRow.holds Try.pinned (OpenSpec.ofChange noteTellsWrong)

/-- 'vedettelaw17.NoteBack': WHATEVER THE INPUT: true; the input reads as it did. -/
def noteBackSpec : ChangeSpec := { name := "noteBack", fn := fun _ => fun
  | [d1, d2, d3, d4, d5, d6] => { results := [.lit (.bool true)], args := [d1, d2, d3, d4, d5, d6] }
  | _ => none }
def noteBackRow : OpenClaim := { program := "ytpjejnefegdoeaa", sum := "b73d34172b6711a2462ad44cc9df2eaf1e9d8969b367a86dde00930caa5179a3", func := "vedette/vedettelaw17.NoteBack", spec := "noteBack", inPlace := ["internal/abi.NoEscape"], unfollowed := true, recurses := true, apart := false }
def NoteBackSaid : Prop := noteBackRow.holds Try.pinned (OpenSpec.ofChange noteBackSpec)

/-- ITS FALSE NEIGHBOUR: 'it returns false'. Refute it at one input. -/
def noteBackWrong : ChangeSpec := { name := "noteBack", fn := fun _ => fun
  | [d1, d2, d3, d4, d5, d6] => { results := [.lit (.bool false)], args := [d1, d2, d3, d4, d5, d6] }
  | _ => none }
def NoteBackWrongFalsely : Prop := noteBackRow.holds Try.pinned (OpenSpec.ofChange noteBackWrong)

/-- 'vedettelaw17.NoteSpoils': WHATEVER THE INPUT: true; the input reads as it did. -/
def noteSpoilsSpec : ChangeSpec := { name := "noteSpoils", fn := fun _ => fun
  | [d1, d2] => { results := [.lit (.bool true)], args := [d1, d2] }
  | _ => none }
def noteSpoilsRow : OpenClaim := { program := "ytpjejnefegdoeaa", sum := "b73d34172b6711a2462ad44cc9df2eaf1e9d8969b367a86dde00930caa5179a3", func := "vedette/vedettelaw17.NoteSpoils", spec := "noteSpoils", inPlace := ["internal/abi.NoEscape"], unfollowed := true, recurses := true, apart := false }
def NoteSpoilsSaid : Prop := noteSpoilsRow.holds Try.pinned (OpenSpec.ofChange noteSpoilsSpec)

/-- ITS FALSE NEIGHBOUR: 'it returns false'. Refute it at one input. -/
def noteSpoilsWrong : ChangeSpec := { name := "noteSpoils", fn := fun _ => fun
  | [d1, d2] => { results := [.lit (.bool false)], args := [d1, d2] }
  | _ => none }
def NoteSpoilsWrongFalsely : Prop := noteSpoilsRow.holds Try.pinned (OpenSpec.ofChange noteSpoilsWrong)

/-- 'vedettelaw17.NoteCells': WHATEVER THE INPUT: true; the input reads as it did. -/
def noteCellsSpec : ChangeSpec := { name := "noteCells", fn := fun _ => fun
  | [d1, d2, d3, d4] => { results := [.lit (.bool true)], args := [d1, d2, d3, d4] }
  | _ => none }
def noteCellsRow : OpenClaim := { program := "ytpjejnefegdoeaa", sum := "b73d34172b6711a2462ad44cc9df2eaf1e9d8969b367a86dde00930caa5179a3", func := "vedette/vedettelaw17.NoteCells", spec := "noteCells", inPlace := ["internal/abi.NoEscape"], unfollowed := true, recurses := true, apart := false }
def NoteCellsSaid : Prop := noteCellsRow.holds Try.pinned (OpenSpec.ofChange noteCellsSpec)

/-- ITS FALSE NEIGHBOUR: 'it returns false'. Refute it at one input. -/
def noteCellsWrong : ChangeSpec := { name := "noteCells", fn := fun _ => fun
  | [d1, d2, d3, d4] => { results := [.lit (.bool false)], args := [d1, d2, d3, d4] }
  | _ => none }
def NoteCellsWrongFalsely : Prop := noteCellsRow.holds Try.pinned (OpenSpec.ofChange noteCellsWrong)

/- THE SECOND FORM. 'bulk': how many values and letters a reading holds, each counted each time it is reached (what is shared counts as often as it is met; a slice's spare places count too). A statement '..UptoSaid' is the law's where the arguments, and the package variables that the reading takes, are together of bulk at most 1048576: NARROWER than '..Said'. Prove '..Said' where nothing that the law and all that it calls make is longer than what came in: it says more and counts as full. Else prove '..UptoSaid'. A law counts once. -/
mutual
def uptoBulk {H : Type} : DataW H → Nat
  | .lit (.string bytes) => bytes.length + 1
  | .lit _ => 1
  | .nil => 1
  | .ptr d => uptoBulk d + 1
  | .slice elems spare => uptoBulkAll elems + uptoBulkAll spare + 1
  | .agg parts => uptoBulkAll parts + 1
  | .iface _ d => uptoBulk d + 1
  | .map entries => uptoBulkEntries entries + 1
  | .held _ => 1
def uptoBulkAll {H : Type} : List (DataW H) → Nat
  | [] => 0
  | d :: r => uptoBulk d + uptoBulkAll r
def uptoBulkEntries {H : Type} : List (Lit × DataW H) → Nat
  | [] => 0
  | x :: r => uptoBulkEntry x + uptoBulkEntries r
def uptoBulkEntry {H : Type} : Lit × DataW H → Nat
  | (.string bytes, d) => bytes.length + uptoBulk d + 1
  | (_, d) => uptoBulk d + 1
 end
def uptoSmall : (H : Type) → List (DataW H) → Bool := fun _ ds => decide (uptoBulkAll ds ≤ 1048576)
def OpenSpec.upto (s : _root_.Go.ChangeSpec) : _root_.Go.OpenSpec := { _root_.Go.OpenSpec.ofChange s with cond := some uptoSmall }

/-- 'vedettelaw17.NoteTells', WHERE WHAT IT READS IS OF BULK AT MOST 1048576: true; the input reads as it did. -/
def noteTellsUptoRow : OpenClaim := { program := "ytpjejnefegdoeaa", sum := "b73d34172b6711a2462ad44cc9df2eaf1e9d8969b367a86dde00930caa5179a3", func := "vedette/vedettelaw17.NoteTells", spec := "noteTells", inPlace := ["internal/abi.NoEscape"], unfollowed := true, recurses := true, apart := false, narrowed := true }
def NoteTellsUptoSaid : Prop := noteTellsUptoRow.holds Try.pinned (OpenSpec.upto noteTellsSpec)

/-- 'vedettelaw17.NoteBack', WHERE WHAT IT READS IS OF BULK AT MOST 1048576: true; the input reads as it did. -/
def noteBackUptoRow : OpenClaim := { program := "ytpjejnefegdoeaa", sum := "b73d34172b6711a2462ad44cc9df2eaf1e9d8969b367a86dde00930caa5179a3", func := "vedette/vedettelaw17.NoteBack", spec := "noteBack", inPlace := ["internal/abi.NoEscape"], unfollowed := true, recurses := true, apart := false, narrowed := true }
def NoteBackUptoSaid : Prop := noteBackUptoRow.holds Try.pinned (OpenSpec.upto noteBackSpec)

/-- 'vedettelaw17.NoteSpoils', WHERE WHAT IT READS IS OF BULK AT MOST 1048576: true; the input reads as it did. -/
def noteSpoilsUptoRow : OpenClaim := { program := "ytpjejnefegdoeaa", sum := "b73d34172b6711a2462ad44cc9df2eaf1e9d8969b367a86dde00930caa5179a3", func := "vedette/vedettelaw17.NoteSpoils", spec := "noteSpoils", inPlace := ["internal/abi.NoEscape"], unfollowed := true, recurses := true, apart := false, narrowed := true }
def NoteSpoilsUptoSaid : Prop := noteSpoilsUptoRow.holds Try.pinned (OpenSpec.upto noteSpoilsSpec)

/-- 'vedettelaw17.NoteCells', WHERE WHAT IT READS IS OF BULK AT MOST 1048576: true; the input reads as it did. -/
def noteCellsUptoRow : OpenClaim := { program := "ytpjejnefegdoeaa", sum := "b73d34172b6711a2462ad44cc9df2eaf1e9d8969b367a86dde00930caa5179a3", func := "vedette/vedettelaw17.NoteCells", spec := "noteCells", inPlace := ["internal/abi.NoEscape"], unfollowed := true, recurses := true, apart := false, narrowed := true }
def NoteCellsUptoSaid : Prop := noteCellsUptoRow.holds Try.pinned (OpenSpec.upto noteCellsSpec)

end Rows
end Go.Proofs.Ytpjejnefegdoeaa
