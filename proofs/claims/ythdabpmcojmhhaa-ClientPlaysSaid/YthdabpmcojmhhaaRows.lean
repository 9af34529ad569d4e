/-
  No cell of these rows narrows 'for every input' (looked for: loops, veiled, ifaces, maps, wideKeys, modest, calm, conditions, laid).
  DERIVED. THE GIVEN ROWS OF THIS SEAT. 8 by the template 'for every input the law returns true; each argument reads behind the call as it read before'; 0 by the template 'total and deterministic' (their statements: YthdabpmcojmhhaaTotals.lean).
  GIVEN WITH THE SEED: the statements are not yours to turn. If you find one false, say at which input.
  Laid BY PROGRAM, IN A SANDBOX (cutbox-rows.mjs): the forced cells as the released guide's own fill.sh prints them over the translation 96be53fc5a52e857… (all of the seat's roots in one cut). By AI agents, Wed Nov 11 2026. No macro, syntax, notation, axiom, sorry.
-/
import Derived.Test.YthdabpmcojmhhaaChecked
import GoSem.Claim
import GoSem.ClaimJoined
import GoSem.ClaimMapViews
import Derived.JoinedTies
import Derived.KernelRfl
namespace Go.Proofs.Ythdabpmcojmhhaa
/- THE CELL 'sum', in the pinned program and in every row, IS THE sha256 OF THE DUMP (.gsa) THAT YthdabpmcojmhhaaProg.lean LOADS. Nothing in Lean hashes anything: it is a label: what it is worth is what the hold of that sum in a sandbox is worth. -/
noncomputable def Try.pinned : Pinned := { name := "ythdabpmcojmhhaa", sum := "96be53fc5a52e857aa7228482a96b4e667d54c3df78258934494ce00f61cffe7", checked := Try.checked }
namespace Rows
def none {H : Type} : Left H := { results := [], args := [] }

/-- 'vedettelaw19.ViewPlays': WHATEVER THE INPUT: true; the input reads as it did. -/
def viewPlaysSpec : ChangeSpec := { name := "viewPlays", fn := fun _ => fun
  | [d1, d2, d3, d4] => { results := [.lit (.bool true)], args := [d1, d2, d3, d4] }
  | _ => none }
def viewPlaysRow : OpenClaim := { program := "ythdabpmcojmhhaa", sum := "96be53fc5a52e857aa7228482a96b4e667d54c3df78258934494ce00f61cffe7", func := "vedette/vedettelaw19.ViewPlays", spec := "viewPlays", inPlace := ["slices.overlaps[vedette/api.Thing]"], unfollowed := true, recurses := true, plainKeys := false, apart := false }
def ViewPlaysSaid : Prop := viewPlaysRow.holds Try.pinned (OpenSpec.ofChange viewPlaysSpec)

/-- ITS FALSE NEIGHBOUR: 'it returns false'. Refute it at one input. -/
def viewPlaysWrong : ChangeSpec := { name := "viewPlays", fn := fun _ => fun
  | [d1, d2, d3, d4] => { results := [.lit (.bool false)], args := [d1, d2, d3, d4] }
  | _ => none }
def ViewPlaysWrongFalsely : Prop := viewPlaysRow.holds Try.pinned (OpenSpec.ofChange viewPlaysWrong)

/-- 'vedettelaw19.ViewOrders': WHATEVER THE INPUT: true; the input reads as it did. -/
def viewOrdersSpec : ChangeSpec := { name := "viewOrders", fn := fun _ => fun
  | [d1, d2, d3, d4] => { results := [.lit (.bool true)], args := [d1, d2, d3, d4] }
  | _ => none }
def viewOrdersRow : OpenClaim := { program := "ythdabpmcojmhhaa", sum := "96be53fc5a52e857aa7228482a96b4e667d54c3df78258934494ce00f61cffe7", func := "vedette/vedettelaw19.ViewOrders", spec := "viewOrders", inPlace := ["slices.overlaps[vedette/api.Thing]"], unfollowed := true, recurses := true, plainKeys := false, apart := false }
def ViewOrdersSaid : Prop := viewOrdersRow.holds Try.pinned (OpenSpec.ofChange viewOrdersSpec)

/-- ITS FALSE NEIGHBOUR: 'it returns false'. Refute it at one input. -/
def viewOrdersWrong : ChangeSpec := { name := "viewOrders", fn := fun _ => fun
  | [d1, d2, d3, d4] => { results := [.lit (.bool false)], args := [d1, d2, d3, d4] }
  | _ => none }
def ViewOrdersWrongFalsely : Prop := viewOrdersRow.holds Try.pinned (OpenSpec.ofChange viewOrdersWrong)

/-- 'vedettelaw19.ViewWaits': WHATEVER THE INPUT: true; the input reads as it did. -/
def viewWaitsSpec : ChangeSpec := { name := "viewWaits", fn := fun _ => fun
  | [d1, d2, d3] => { results := [.lit (.bool true)], args := [d1, d2, d3] }
  | _ => none }
def viewWaitsRow : OpenClaim := { program := "ythdabpmcojmhhaa", sum := "96be53fc5a52e857aa7228482a96b4e667d54c3df78258934494ce00f61cffe7", func := "vedette/vedettelaw19.ViewWaits", spec := "viewWaits", inPlace := ["slices.overlaps[vedette/api.Thing]"], unfollowed := true, recurses := true, plainKeys := false, apart := false }
def ViewWaitsSaid : Prop := viewWaitsRow.holds Try.pinned (OpenSpec.ofChange viewWaitsSpec)

/-- ITS FALSE NEIGHBOUR: 'it returns false'. Refute it at one input. -/
def viewWaitsWrong : ChangeSpec := { name := "viewWaits", fn := fun _ => fun
  | [d1, d2, d3] => { results := [.lit (.bool false)], args := [d1, d2, d3] }
  | _ => none }
def ViewWaitsWrongFalsely : Prop := viewWaitsRow.holds Try.pinned (OpenSpec.ofChange viewWaitsWrong)

/-- 'vedettelaw19.ViewRefuses': WHATEVER THE INPUT: true; the input reads as it did. -/
def viewRefusesSpec : ChangeSpec := { name := "viewRefuses", fn := fun _ => fun
  | [d1, d2] => { results := [.lit (.bool true)], args := [d1, d2] }
  | _ => none }
def viewRefusesRow : OpenClaim := { program := "ythdabpmcojmhhaa", sum := "96be53fc5a52e857aa7228482a96b4e667d54c3df78258934494ce00f61cffe7", func := "vedette/vedettelaw19.ViewRefuses", spec := "viewRefuses", inPlace := ["slices.overlaps[vedette/api.Thing]"], unfollowed := true, recurses := true, plainKeys := false, apart := false }
def ViewRefusesSaid : Prop := viewRefusesRow.holds Try.pinned (OpenSpec.ofChange viewRefusesSpec)

/-- ITS FALSE NEIGHBOUR: 'it returns false'. Refute it at one input. -/
def viewRefusesWrong : ChangeSpec := { name := "viewRefuses", fn := fun _ => fun
  | [d1, d2] => { results := [.lit (.bool false)], args := [d1, d2] }
  | _ => none }
def ViewRefusesWrongFalsely : Prop := viewRefusesRow.holds Try.pinned (OpenSpec.ofChange viewRefusesWrong)

/-- 'vedettelaw19.ViewBad': WHATEVER THE INPUT: true; the input reads as it did. -/
def viewBadSpec : ChangeSpec := { name := "viewBad", fn := fun _ => fun
  | [d1, d2] => { results := [.lit (.bool true)], args := [d1, d2] }
  | _ => none }
def viewBadRow : OpenClaim := { program := "ythdabpmcojmhhaa", sum := "96be53fc5a52e857aa7228482a96b4e667d54c3df78258934494ce00f61cffe7", func := "vedette/vedettelaw19.ViewBad", spec := "viewBad", inPlace := ["slices.overlaps[vedette/api.Thing]"], unfollowed := true, recurses := true, plainKeys := false, apart := false }
def ViewBadSaid : Prop := viewBadRow.holds Try.pinned (OpenSpec.ofChange viewBadSpec)

/-- ITS FALSE NEIGHBOUR: 'it returns false'. Refute it at one input. -/
def viewBadWrong : ChangeSpec := { name := "viewBad", fn := fun _ => fun
  | [d1, d2] => { results := [.lit (.bool false)], args := [d1, d2] }
  | _ => none }
def ViewBadWrongFalsely : Prop := viewBadRow.holds Try.pinned (OpenSpec.ofChange viewBadWrong)

/-- 'vedettelaw24.ClientBounds': WHATEVER THE INPUT: true; the input reads as it did. -/
def clientBoundsSpec : ChangeSpec := { name := "clientBounds", fn := fun _ => fun
  | [d1, d2, d3] => { results := [.lit (.bool true)], args := [d1, d2, d3] }
  | _ => none }
def clientBoundsRow : OpenClaim := { program := "ythdabpmcojmhhaa", sum := "96be53fc5a52e857aa7228482a96b4e667d54c3df78258934494ce00f61cffe7", func := "vedette/vedettelaw24.ClientBounds", spec := "clientBounds", inPlace := ["slices.overlaps[vedette/api.Thing]"], unfollowed := true, recurses := true, plainKeys := false, apart := false }
def ClientBoundsSaid : Prop := clientBoundsRow.holds Try.pinned (OpenSpec.ofChange clientBoundsSpec)

/-- ITS FALSE NEIGHBOUR: 'it returns false'. Refute it at one input. -/
def clientBoundsWrong : ChangeSpec := { name := "clientBounds", fn := fun _ => fun
  | [d1, d2, d3] => { results := [.lit (.bool false)], args := [d1, d2, d3] }
  | _ => none }
def ClientBoundsWrongFalsely : Prop := clientBoundsRow.holds Try.pinned (OpenSpec.ofChange clientBoundsWrong)

/-- 'vedettelaw24.ClientPlays': WHATEVER THE INPUT: true; the input reads as it did. -/
def clientPlaysSpec : ChangeSpec := { name := "clientPlays", fn := fun _ => fun
  | [d1, d2, d3] => { results := [.lit (.bool true)], args := [d1, d2, d3] }
  | _ => none }
def clientPlaysRow : OpenClaim := { program := "ythdabpmcojmhhaa", sum := "96be53fc5a52e857aa7228482a96b4e667d54c3df78258934494ce00f61cffe7", func := "vedette/vedettelaw24.ClientPlays", spec := "clientPlays", inPlace := ["slices.overlaps[vedette/api.Thing]"], unfollowed := true, recurses := true, plainKeys := false, apart := false }
def ClientPlaysSaid : Prop := clientPlaysRow.holds Try.pinned (OpenSpec.ofChange clientPlaysSpec)

/-- ITS FALSE NEIGHBOUR: 'it returns false'. Refute it at one input. -/
def clientPlaysWrong : ChangeSpec := { name := "clientPlays", fn := fun _ => fun
  | [d1, d2, d3] => { results := [.lit (.bool false)], args := [d1, d2, d3] }
  | _ => none }
def ClientPlaysWrongFalsely : Prop := clientPlaysRow.holds Try.pinned (OpenSpec.ofChange clientPlaysWrong)

/-- 'vedettelaw24.ClientResets': WHATEVER THE INPUT: true; the input reads as it did. -/
def clientResetsSpec : ChangeSpec := { name := "clientResets", fn := fun _ => fun
  | [d1, d2] => { results := [.lit (.bool true)], args := [d1, d2] }
  | _ => none }
def clientResetsRow : OpenClaim := { program := "ythdabpmcojmhhaa", sum := "96be53fc5a52e857aa7228482a96b4e667d54c3df78258934494ce00f61cffe7", func := "vedette/vedettelaw24.ClientResets", spec := "clientResets", inPlace := ["slices.overlaps[vedette/api.Thing]"], unfollowed := true, recurses := true, plainKeys := false, apart := false }
def ClientResetsSaid : Prop := clientResetsRow.holds Try.pinned (OpenSpec.ofChange clientResetsSpec)

/-- ITS FALSE NEIGHBOUR: 'it returns false'. Refute it at one input. -/
def clientResetsWrong : ChangeSpec := { name := "clientResets", fn := fun _ => fun
  | [d1, d2] => { results := [.lit (.bool false)], args := [d1, d2] }
  | _ => none }
def ClientResetsWrongFalsely : Prop := clientResetsRow.holds Try.pinned (OpenSpec.ofChange clientResetsWrong)

/- THE SECOND FORM. 'bulk': how many values and letters a reading holds, each counted each time it is reached (what is shared counts as often as it is met; a slice's spare places count too). A statement '..UptoSaid' is the law's where the arguments, and the package variables that the reading takes, are together of bulk at most 1048576: NARROWER than '..Said'. Prove '..Said' where nothing that the law and all that it calls make is longer than what came in: it says more and counts as full. Else prove '..UptoSaid'. A law counts once. -/
mutual
def uptoBulk {H : Type} : DataW H → Nat
  | .lit (.string bytes) => bytes.length + 1
  | .lit _ => 1
  | .nil => 1
  | .ptr d => uptoBulk d + 1
  | .slice elems spare => uptoBulkAll elems + uptoBulkAll spare + 1
  | .agg parts => uptoBulkAll parts + 1
  | .iface _ d => uptoBulk d + 1
  | .map entries => uptoBulkEntries entries + 1
  | .held _ => 1
def uptoBulkAll {H : Type} : List (DataW H) → Nat
  | [] => 0
  | d :: r => uptoBulk d + uptoBulkAll r
def uptoBulkEntries {H : Type} : List (Lit × DataW H) → Nat
  | [] => 0
  | x :: r => uptoBulkEntry x + uptoBulkEntries r
def uptoBulkEntry {H : Type} : Lit × DataW H → Nat
  | (.string bytes, d) => bytes.length + uptoBulk d + 1
  | (_, d) => uptoBulk d + 1
 end
def uptoSmall : (H : Type) → List (DataW H) → Bool := fun _ ds => decide (uptoBulkAll ds ≤ 1048576)
def OpenSpec.upto (s : _root_.Go.ChangeSpec) : _root_.Go.OpenSpec := { _root_.Go.OpenSpec.ofChange s with cond := some uptoSmall }

/-- 'vedettelaw19.ViewPlays', WHERE WHAT IT READS IS OF BULK AT MOST 1048576: true; the input reads as it did. -/
def viewPlaysUptoRow : OpenClaim := { program := "ythdabpmcojmhhaa", sum := "96be53fc5a52e857aa7228482a96b4e667d54c3df78258934494ce00f61cffe7", func := "vedette/vedettelaw19.ViewPlays", spec := "viewPlays", inPlace := ["slices.overlaps[vedette/api.Thing]"], unfollowed := true, recurses := true, plainKeys := false, apart := false, narrowed := true }
def ViewPlaysUptoSaid : Prop := viewPlaysUptoRow.holds Try.pinned (OpenSpec.upto viewPlaysSpec)

/-- 'vedettelaw19.ViewOrders', WHERE WHAT IT READS IS OF BULK AT MOST 1048576: true; the input reads as it did. -/
def viewOrdersUptoRow : OpenClaim := { program := "ythdabpmcojmhhaa", sum := "96be53fc5a52e857aa7228482a96b4e667d54c3df78258934494ce00f61cffe7", func := "vedette/vedettelaw19.ViewOrders", spec := "viewOrders", inPlace := ["slices.overlaps[vedette/api.Thing]"], unfollowed := true, recurses := true, plainKeys := false, apart := false, narrowed := true }
def ViewOrdersUptoSaid : Prop := viewOrdersUptoRow.holds Try.pinned (OpenSpec.upto viewOrdersSpec)

/-- 'vedettelaw19.ViewWaits', WHERE WHAT IT READS IS OF BULK AT MOST 1048576: true; the input reads as it did. -/
def viewWaitsUptoRow : OpenClaim := { program := "ythdabpmcojmhhaa", sum := "96be53fc5a52e857aa7228482a96b4e667d54c3df78258934494ce00f61cffe7", func := "vedette/vedettelaw19.ViewWaits", spec := "viewWaits", inPlace := ["slices.overlaps[vedette/api.Thing]"], unfollowed := true, recurses := true, plainKeys := false, apart := false, narrowed := true }
def ViewWaitsUptoSaid : Prop := viewWaitsUptoRow.holds Try.pinned (OpenSpec.upto viewWaitsSpec)

/-- 'vedettelaw19.ViewRefuses', WHERE WHAT IT READS IS OF BULK AT MOST 1048576: true; the input reads as it did. -/
def viewRefusesUptoRow : OpenClaim := { program := "ythdabpmcojmhhaa", sum := "96be53fc5a52e857aa7228482a96b4e667d54c3df78258934494ce00f61cffe7", func := "vedette/vedettelaw19.ViewRefuses", spec := "viewRefuses", inPlace := ["slices.overlaps[vedette/api.Thing]"], unfollowed := true, recurses := true, plainKeys := false, apart := false, narrowed := true }
def ViewRefusesUptoSaid : Prop := viewRefusesUptoRow.holds Try.pinned (OpenSpec.upto viewRefusesSpec)

/-- 'vedettelaw19.ViewBad', WHERE WHAT IT READS IS OF BULK AT MOST 1048576: true; the input reads as it did. -/
def viewBadUptoRow : OpenClaim := { program := "ythdabpmcojmhhaa", sum := "96be53fc5a52e857aa7228482a96b4e667d54c3df78258934494ce00f61cffe7", func := "vedette/vedettelaw19.ViewBad", spec := "viewBad", inPlace := ["slices.overlaps[vedette/api.Thing]"], unfollowed := true, recurses := true, plainKeys := false, apart := false, narrowed := true }
def ViewBadUptoSaid : Prop := viewBadUptoRow.holds Try.pinned (OpenSpec.upto viewBadSpec)

/-- 'vedettelaw24.ClientBounds', WHERE WHAT IT READS IS OF BULK AT MOST 1048576: true; the input reads as it did. -/
def clientBoundsUptoRow : OpenClaim := { program := "ythdabpmcojmhhaa", sum := "96be53fc5a52e857aa7228482a96b4e667d54c3df78258934494ce00f61cffe7", func := "vedette/vedettelaw24.ClientBounds", spec := "clientBounds", inPlace := ["slices.overlaps[vedette/api.Thing]"], unfollowed := true, recurses := true, plainKeys := false, apart := false, narrowed := true }
def ClientBoundsUptoSaid : Prop := clientBoundsUptoRow.holds Try.pinned (OpenSpec.upto clientBoundsSpec)

/-- 'vedettelaw24.ClientPlays', WHERE WHAT IT READS IS OF BULK AT MOST 1048576: true; the input reads as it did. -/
def clientPlaysUptoRow : OpenClaim := { program := "ythdabpmcojmhhaa", sum := "96be53fc5a52e857aa7228482a96b4e667d54c3df78258934494ce00f61cffe7", func := "vedette/vedettelaw24.ClientPlays", spec := "clientPlays", inPlace := ["slices.overlaps[vedette/api.Thing]"], unfollowed := true, recurses := true, plainKeys := false, apart := false, narrowed := true }
def ClientPlaysUptoSaid : Prop := clientPlaysUptoRow.holds Try.pinned (OpenSpec.upto clientPlaysSpec)

/-- 'vedettelaw24.ClientResets', WHERE WHAT IT READS IS OF BULK AT MOST 1048576: true; the input reads as it did. -/
def clientResetsUptoRow : OpenClaim := { program := "ythdabpmcojmhhaa", sum := "96be53fc5a52e857aa7228482a96b4e667d54c3df78258934494ce00f61cffe7", func := "vedette/vedettelaw24.ClientResets", spec := "clientResets", inPlace := ["slices.overlaps[vedette/api.Thing]"], unfollowed := true, recurses := true, plainKeys := false, apart := false, narrowed := true }
def ClientResetsUptoSaid : Prop := clientResetsUptoRow.holds Try.pinned (OpenSpec.upto clientResetsSpec)

end Rows
end Go.Proofs.Ythdabpmcojmhhaa
