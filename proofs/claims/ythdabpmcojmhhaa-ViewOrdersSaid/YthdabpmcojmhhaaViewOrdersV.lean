/- No condition. -/
import Derived.Test.YthdabpmcojmhhaaViewOrdersE
import Derived.Test.YthdabpmcojmhhaaChecked
import Derived.Test.YthdabpmcojmhhaaRxVa
namespace Go.Proofs.Ythdabpmcojmhhaa
open Go Go.Rx Go.ChangeShapes Go.WideShapes Go.RowKit
set_option maxRecDepth 100000
set_option linter.unusedVariables false
set_option linter.unusedSimpArgs false
set_option linter.unnecessarySimpa false
set_option linter.unnecessarySimpa false
def Point.vals (x : Point) : List Go.Value := [.int .i64 x.X, .int .i64 x.Y]
def Point.wf (x : Point) : Prop := (Lit.int .i64 x.X).wf = true ∧ (Lit.int .i64 x.Y).wf = true
theorem Point.len (x : Point) : (Point.vals x).length = 2 := rfl
theorem Point.one (x : Point) : ∀ v ∈ Point.vals x, v.oneCell' = true := by simp [Point.vals, Go.Value.oneCell']
def Field.vals (x : Field) : List Go.Value := [.int .i64 x.N, .string x.Text]
def Field.wf (x : Field) : Prop := (Lit.int .i64 x.N).wf = true ∧ x.Text.size ≤ maxLen
theorem Field.len (x : Field) : (Field.vals x).length = 2 := rfl
theorem Field.one (x : Field) : ∀ v ∈ Field.vals x, v.oneCell' = true := by simp [Field.vals, Go.Value.oneCell']
def A4_Field.vals (x : (A4 Field)) : List Go.Value := [.int .i64 x.a0.N, .string x.a0.Text, .int .i64 x.a1.N, .string x.a1.Text, .int .i64 x.a2.N, .string x.a2.Text, .int .i64 x.a3.N, .string x.a3.Text]
def A4_Field.wf (x : (A4 Field)) : Prop := Field.wf x.a0 ∧ Field.wf x.a1 ∧ Field.wf x.a2 ∧ Field.wf x.a3
theorem A4_Field.len (x : (A4 Field)) : (A4_Field.vals x).length = 8 := rfl
theorem A4_Field.one (x : (A4 Field)) : ∀ v ∈ A4_Field.vals x, v.oneCell' = true := by simp [A4_Field.vals, Go.Value.oneCell']
def Thing.vals (x : Thing) : List Go.Value := [.int .i64 x.ID, .int .i64 x.At.X, .int .i64 x.At.Y, .int .i64 x.F.a0.N, .string x.F.a0.Text, .int .i64 x.F.a1.N, .string x.F.a1.Text, .int .i64 x.F.a2.N, .string x.F.a2.Text, .int .i64 x.F.a3.N, .string x.F.a3.Text]
def Thing.wf (x : Thing) : Prop := (Lit.int .i64 x.ID).wf = true ∧ Point.wf x.At ∧ A4_Field.wf x.F
theorem Thing.len (x : Thing) : (Thing.vals x).length = 11 := rfl
theorem Thing.one (x : Thing) : ∀ v ∈ Thing.vals x, v.oneCell' = true := by simp [Thing.vals, Go.Value.oneCell']
def Delta.vals (x : Delta) : List Go.Value := [.int .i64 x.ID, .int .u8 x.Mask, .int .i64 x.At.X, .int .i64 x.At.Y, .int .i64 x.F.a0.N, .string x.F.a0.Text, .int .i64 x.F.a1.N, .string x.F.a1.Text, .int .i64 x.F.a2.N, .string x.F.a2.Text, .int .i64 x.F.a3.N, .string x.F.a3.Text]
def Delta.wf (x : Delta) : Prop := (Lit.int .i64 x.ID).wf = true ∧ (Lit.int .u8 x.Mask).wf = true ∧ Point.wf x.At ∧ A4_Field.wf x.F
theorem Delta.len (x : Delta) : (Delta.vals x).length = 12 := rfl
theorem Delta.one (x : Delta) : ∀ v ∈ Delta.vals x, v.oneCell' = true := by simp [Delta.vals, Go.Value.oneCell']
def Event.vals (x : Event) : List Go.Value := [.int .i64 x.Kind, .int .i64 x.ID, .int .i64 x.Thing.ID, .int .i64 x.Thing.At.X, .int .i64 x.Thing.At.Y, .int .i64 x.Thing.F.a0.N, .string x.Thing.F.a0.Text, .int .i64 x.Thing.F.a1.N, .string x.Thing.F.a1.Text, .int .i64 x.Thing.F.a2.N, .string x.Thing.F.a2.Text, .int .i64 x.Thing.F.a3.N, .string x.Thing.F.a3.Text, .int .i64 x.Delta.ID, .int .u8 x.Delta.Mask, .int .i64 x.Delta.At.X, .int .i64 x.Delta.At.Y, .int .i64 x.Delta.F.a0.N, .string x.Delta.F.a0.Text, .int .i64 x.Delta.F.a1.N, .string x.Delta.F.a1.Text, .int .i64 x.Delta.F.a2.N, .string x.Delta.F.a2.Text, .int .i64 x.Delta.F.a3.N, .string x.Delta.F.a3.Text]
def Event.wf (x : Event) : Prop := (Lit.int .i64 x.Kind).wf = true ∧ (Lit.int .i64 x.ID).wf = true ∧ Thing.wf x.Thing ∧ Delta.wf x.Delta
theorem Event.len (x : Event) : (Event.vals x).length = 25 := rfl
theorem Event.one (x : Event) : ∀ v ∈ Event.vals x, v.oneCell' = true := by simp [Event.vals, Go.Value.oneCell']
def Frame.wf (x : Frame) : Prop := (Lit.int .i64 x.From).wf = true ∧ (Lit.int .i64 x.Client).wf = true ∧ (Lit.int .i64 x.Session).wf = true ∧ (Lit.int .i64 x.Start).wf = true ∧ (Lit.int .i64 x.Beat).wf = true ∧ ((∀ a ∈ x.Events, Event.wf a) ∧ x.Events.length ≤ maxLen)
end Go.Proofs.Ythdabpmcojmhhaa
