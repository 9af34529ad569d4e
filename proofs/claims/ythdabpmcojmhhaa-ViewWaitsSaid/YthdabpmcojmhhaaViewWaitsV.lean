/- No condition. -/
import Derived.Test.YthdabpmcojmhhaaViewWaitsE
import Derived.Test.YthdabpmcojmhhaaChecked
import Derived.Test.YthdabpmcojmhhaaRxVa
namespace Go.Proofs.Ythdabpmcojmhhaa
open Go Go.Rx Go.ChangeShapes Go.WideShapes Go.RowKit
set_option maxRecDepth 100000
set_option linter.unusedVariables false
set_option linter.unusedSimpArgs false
set_option linter.unnecessarySimpa false
set_option linter.unnecessarySimpa false
def Point.wf (x : Point) : Prop := (Lit.int .i64 x.X).wf = true ∧ (Lit.int .i64 x.Y).wf = true
def Field.wf (x : Field) : Prop := (Lit.int .i64 x.N).wf = true ∧ x.Text.size ≤ maxLen
def A4_Field.wf (x : (A4 Field)) : Prop := Field.wf x.a0 ∧ Field.wf x.a1 ∧ Field.wf x.a2 ∧ Field.wf x.a3
def Thing.wf (x : Thing) : Prop := (Lit.int .i64 x.ID).wf = true ∧ Point.wf x.At ∧ A4_Field.wf x.F
def Delta.wf (x : Delta) : Prop := (Lit.int .i64 x.ID).wf = true ∧ (Lit.int .u8 x.Mask).wf = true ∧ Point.wf x.At ∧ A4_Field.wf x.F
def Event.wf (x : Event) : Prop := (Lit.int .i64 x.Kind).wf = true ∧ (Lit.int .i64 x.ID).wf = true ∧ Thing.wf x.Thing ∧ Delta.wf x.Delta
def Frame.wf (x : Frame) : Prop := (Lit.int .i64 x.From).wf = true ∧ (Lit.int .i64 x.Client).wf = true ∧ (Lit.int .i64 x.Session).wf = true ∧ (Lit.int .i64 x.Start).wf = true ∧ (Lit.int .i64 x.Beat).wf = true ∧ ((∀ a ∈ x.Events, Event.wf a) ∧ x.Events.length ≤ maxLen)
end Go.Proofs.Ythdabpmcojmhhaa
