/- No condition. -/
import Derived.Test.YthdabpmcojmhhaaClientResetsE
import Derived.Test.YthdabpmcojmhhaaChecked
import Derived.Test.YthdabpmcojmhhaaRxVa
namespace Go.Proofs.Ythdabpmcojmhhaa
open Go Go.Rx Go.ChangeShapes Go.WideShapes Go.RowKit
set_option maxRecDepth 100000
set_option linter.unusedVariables false
set_option linter.unusedSimpArgs false
set_option linter.unnecessarySimpa false
set_option linter.unnecessarySimpa false
def Point.wf (x : Point) : Prop := (Lit.int .i64 x.X).wf = true ∧ (Lit.int .i64 x.Y).wf = true
def Field.wf (x : Field) : Prop := (Lit.int .i64 x.N).wf = true ∧ x.Text.size ≤ maxLen
def A4_Field.wf (x : (A4 Field)) : Prop := Field.wf x.a0 ∧ Field.wf x.a1 ∧ Field.wf x.a2 ∧ Field.wf x.a3
def Thing.wf (x : Thing) : Prop := (Lit.int .i64 x.ID).wf = true ∧ Point.wf x.At ∧ A4_Field.wf x.F
def Delta.wf (x : Delta) : Prop := (Lit.int .i64 x.ID).wf = true ∧ (Lit.int .u8 x.Mask).wf = true ∧ Point.wf x.At ∧ A4_Field.wf x.F
def Event.wf (x : Event) : Prop := (Lit.int .i64 x.Kind).wf = true ∧ (Lit.int .i64 x.ID).wf = true ∧ Thing.wf x.Thing ∧ Delta.wf x.Delta
def Frame.wf (x : Frame) : Prop := (Lit.int .i64 x.From).wf = true ∧ (Lit.int .i64 x.Client).wf = true ∧ (Lit.int .i64 x.Session).wf = true ∧ (Lit.int .i64 x.Start).wf = true ∧ (Lit.int .i64 x.Beat).wf = true ∧ ((∀ a ∈ x.Events, Event.wf a) ∧ x.Events.length ≤ maxLen)
def Rect.wf (x : Rect) : Prop := (Lit.int .i64 x.X0).wf = true ∧ (Lit.int .i64 x.Y0).wf = true ∧ (Lit.int .i64 x.X1).wf = true ∧ (Lit.int .i64 x.Y1).wf = true
def Command.wf (x : Command) : Prop := (Lit.int .i64 x.Kind).wf = true ∧ (Lit.int .i64 x.ID).wf = true ∧ (Lit.int .i64 x.Which).wf = true ∧ (Lit.int .i64 x.To).wf = true ∧ Point.wf x.At ∧ A4_Field.wf x.F ∧ Field.wf x.Value ∧ (Lit.int .i64 x.Client).wf = true ∧ (Lit.int .i64 x.Session).wf = true ∧ Rect.wf x.Rect
def Hand.wf (x : Hand) : Prop := (Lit.int .i64 x.Cell).wf = true ∧ (Lit.int .i64 x.To).wf = true
def Note.wf (x : Note) : Prop := (Lit.int .i64 x.From).wf = true ∧ (Lit.int .i64 x.Beat).wf = true ∧ ((∀ a ∈ x.Moved, Thing.wf a) ∧ x.Moved.length ≤ maxLen) ∧ ((∀ a ∈ x.Hands, Hand.wf a) ∧ x.Hands.length ≤ maxLen) ∧ ((∀ a ∈ x.Given, Thing.wf a) ∧ x.Given.length ≤ maxLen) ∧ ((∀ a ∈ x.Watch, Command.wf a) ∧ x.Watch.length ≤ maxLen)
theorem RelL.append {W : World} : ∀ {a b : List Go.Value} {x y : List Lf}, RelL W a x → RelL W b y → RelL W (a ++ b) (x ++ y)
 | [], b, [], y, _, h => h
 | [], _, _ :: _, _, h, _ => by cases h.1
 | _ :: _, _, [], _, h, _ => by cases h.1
 | c :: a, b, l :: x, y, h, hb => .cons (by simpa using h.2 0 (by simp)) (RelL.append ⟨by simpa using h.1, fun j hj => by simpa using h.2 (j + 1) (by simpa using hj)⟩ hb)
theorem RelL.at {W : World} {cs : List Go.Value} {x y : List Lf} (off sz nx : Nat) (hn : off + sz = nx) (h : RelL W ((cs.drop off).take sz) x) (hr : RelL W (cs.drop nx) y) : RelL W (cs.drop off) (x ++ y) := by
 have := RelL.append h hr
 rw [← hn, ← List.drop_drop, List.take_append_drop] at this
 exact this
def Packet.wf (x : Packet) : Prop := (Lit.int .i64 x.From).wf = true ∧ (Lit.int .i64 x.To).wf = true ∧ (Lit.int .i64 x.Kind).wf = true ∧ (Lit.int .i64 x.Seq).wf = true ∧ Command.wf x.C ∧ (Lit.int .i64 x.E).wf = true ∧ (Lit.int .i64 x.ID).wf = true ∧ Note.wf x.N ∧ Frame.wf x.F ∧ (Lit.int .i64 x.Session).wf = true ∧ (Lit.int .i64 x.Beat).wf = true
def Step.wf (x : Step) : Prop := (Lit.int .i64 x.What).wf = true ∧ (Lit.int .i64 x.To).wf = true ∧ Command.wf x.C ∧ Packet.wf x.P
end Go.Proofs.Ythdabpmcojmhhaa
