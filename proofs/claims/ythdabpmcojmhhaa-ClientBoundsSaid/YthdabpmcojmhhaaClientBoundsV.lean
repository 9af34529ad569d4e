/- No condition. -/
import Derived.Test.YthdabpmcojmhhaaClientBoundsE
import Derived.Test.YthdabpmcojmhhaaChecked
import Derived.Test.YthdabpmcojmhhaaRxVa
namespace Go.Proofs.Ythdabpmcojmhhaa
open Go Go.Rx Go.ChangeShapes Go.WideShapes Go.RowKit
set_option maxRecDepth 100000
set_option linter.unusedVariables false
set_option linter.unusedSimpArgs false
set_option linter.unnecessarySimpa false
set_option linter.unnecessarySimpa false
def Point.vals (x : Point) : List Go.Value := [.int .i64 x.X, .int .i64 x.Y]
def Point.wf (x : Point) : Prop := (Lit.int .i64 x.X).wf = true ∧ (Lit.int .i64 x.Y).wf = true
theorem open_Point {H : Type} {enc : TypeId × Go.Value → H} {w : World} {base : Nat} {spare : Nat → Bool} {held : Bool} {fuel : Nat} {cs : List Go.Value} {x : DataW H × List MemPlace} (h : DataW.trod enc Try.prog w base spare held fuel 49 cs = some x) : ∃ a : Point, cs = Point.vals a ∧ Point.wf a := by
 obtain ⟨xs, n, rfl, rfl, hl, hx, hf⟩ := DataW.trod_struct Try.underlying49 h
 have hl' : cs.length = 2 := hl.trans (by kernel_rfl)
 match cs, hl' with
 | [c0, c1], _ =>
  have f0 : DataW.trod enc Try.prog w base spare held n 3 [c0] = xs[0]? := by
   have ce : Try.prog.cellsOf 3 = 1 := by kernel_rfl
   have this : DataW.trod enc Try.prog w base spare held n 3 (((_ : List Go.Value).drop 0).take (Try.prog.cellsOf 3)) = xs[0]? := hf 0 _ rfl
   rw [ce] at this; exact this
  rw [List.getElem?_eq_getElem (by rw [hx]; decide)] at f0
  obtain ⟨a0, e0, _, w0⟩ := DataW.trod_int Try.underlying3 f0
  simp only [List.cons.injEq, and_true] at e0
  obtain rfl := e0
  have f1 : DataW.trod enc Try.prog w base spare held n 3 [c1] = xs[1]? := by
   have ce : Try.prog.cellsOf 3 = 1 := by kernel_rfl
   have this : DataW.trod enc Try.prog w base spare held n 3 (((_ : List Go.Value).drop 1).take (Try.prog.cellsOf 3)) = xs[1]? := hf 1 _ rfl
   rw [ce] at this; exact this
  rw [List.getElem?_eq_getElem (by rw [hx]; decide)] at f1
  obtain ⟨a1, e1, _, w1⟩ := DataW.trod_int Try.underlying3 f1
  simp only [List.cons.injEq, and_true] at e1
  obtain rfl := e1
  exact ⟨⟨a0, a1⟩, rfl, ⟨w0, w1⟩⟩
theorem Point.one (x : Point) : ∀ v ∈ Point.vals x, v.oneCell' = true := by simp [Point.vals, Go.Value.oneCell']
def Field.vals (x : Field) : List Go.Value := [.int .i64 x.N, .string x.Text]
def Field.wf (x : Field) : Prop := (Lit.int .i64 x.N).wf = true ∧ x.Text.size ≤ maxLen
theorem open_Field {H : Type} {enc : TypeId × Go.Value → H} {w : World} {base : Nat} {spare : Nat → Bool} {held : Bool} {fuel : Nat} {cs : List Go.Value} {x : DataW H × List MemPlace} (h : DataW.trod enc Try.prog w base spare held fuel 51 cs = some x) : ∃ a : Field, cs = Field.vals a ∧ Field.wf a := by
 obtain ⟨xs, n, rfl, rfl, hl, hx, hf⟩ := DataW.trod_struct Try.underlying51 h
 have hl' : cs.length = 2 := hl.trans (by kernel_rfl)
 match cs, hl' with
 | [c0, c1], _ =>
  have f0 : DataW.trod enc Try.prog w base spare held n 2 [c0] = xs[0]? := by
   have ce : Try.prog.cellsOf 2 = 1 := by kernel_rfl
   have this : DataW.trod enc Try.prog w base spare held n 2 (((_ : List Go.Value).drop 0).take (Try.prog.cellsOf 2)) = xs[0]? := hf 0 _ rfl
   rw [ce] at this; exact this
  rw [List.getElem?_eq_getElem (by rw [hx]; decide)] at f0
  obtain ⟨a0, e0, _, w0⟩ := DataW.trod_int Try.underlying2 f0
  simp only [List.cons.injEq, and_true] at e0
  obtain rfl := e0
  have f1 : DataW.trod enc Try.prog w base spare held n 9 [c1] = xs[1]? := by
   have ce : Try.prog.cellsOf 9 = 1 := by kernel_rfl
   have this : DataW.trod enc Try.prog w base spare held n 9 (((_ : List Go.Value).drop 1).take (Try.prog.cellsOf 9)) = xs[1]? := hf 1 _ rfl
   rw [ce] at this; exact this
  rw [List.getElem?_eq_getElem (by rw [hx]; decide)] at f1
  obtain ⟨a1, e1, _, w1⟩ := DataW.trod_string Try.underlying9 f1
  simp only [List.cons.injEq, and_true] at e1
  obtain rfl := e1
  exact ⟨⟨a0, a1⟩, rfl, ⟨w0, w1⟩⟩
theorem Field.one (x : Field) : ∀ v ∈ Field.vals x, v.oneCell' = true := by simp [Field.vals, Go.Value.oneCell']
def A4_Field.vals (x : (A4 Field)) : List Go.Value := [.int .i64 x.a0.N, .string x.a0.Text, .int .i64 x.a1.N, .string x.a1.Text, .int .i64 x.a2.N, .string x.a2.Text, .int .i64 x.a3.N, .string x.a3.Text]
def A4_Field.wf (x : (A4 Field)) : Prop := Field.wf x.a0 ∧ Field.wf x.a1 ∧ Field.wf x.a2 ∧ Field.wf x.a3
theorem open_A4_Field {H : Type} {enc : TypeId × Go.Value → H} {w : World} {base : Nat} {spare : Nat → Bool} {held : Bool} {fuel : Nat} {cs : List Go.Value} {x : DataW H × List MemPlace} (h : DataW.trod enc Try.prog w base spare held fuel 52 cs = some x) : ∃ a : (A4 Field), cs = A4_Field.vals a ∧ A4_Field.wf a := by
 obtain ⟨xs, n, rfl, rfl, hl, hx, hf⟩ := DataW.trod_array Try.underlying52 h
 have hl' : cs.length = 8 := hl.trans (by kernel_rfl)
 match cs, hl' with
 | [c0, c1, c2, c3, c4, c5, c6, c7], _ =>
  have ce : Try.prog.cellsOf 51 = 2 := by kernel_rfl
  have f0 : DataW.trod enc Try.prog w base spare held n 51 [c0, c1] = xs[0]? := by
   have this : DataW.trod enc Try.prog w base spare held n 51 (((_ : List Go.Value).drop (0 * Try.prog.cellsOf 51)).take (Try.prog.cellsOf 51)) = xs[0]? := hf 0 (by decide)
   rw [ce] at this; exact this
  rw [List.getElem?_eq_getElem (by rw [hx]; decide)] at f0
  obtain ⟨a0, e0, w0⟩ := open_Field f0
  simp only [Field.vals, List.cons.injEq, and_true] at e0
  obtain ⟨rfl, rfl⟩ := e0
  have f1 : DataW.trod enc Try.prog w base spare held n 51 [c2, c3] = xs[1]? := by
   have this : DataW.trod enc Try.prog w base spare held n 51 (((_ : List Go.Value).drop (1 * Try.prog.cellsOf 51)).take (Try.prog.cellsOf 51)) = xs[1]? := hf 1 (by decide)
   rw [ce] at this; exact this
  rw [List.getElem?_eq_getElem (by rw [hx]; decide)] at f1
  obtain ⟨a1, e1, w1⟩ := open_Field f1
  simp only [Field.vals, List.cons.injEq, and_true] at e1
  obtain ⟨rfl, rfl⟩ := e1
  have f2 : DataW.trod enc Try.prog w base spare held n 51 [c4, c5] = xs[2]? := by
   have this : DataW.trod enc Try.prog w base spare held n 51 (((_ : List Go.Value).drop (2 * Try.prog.cellsOf 51)).take (Try.prog.cellsOf 51)) = xs[2]? := hf 2 (by decide)
   rw [ce] at this; exact this
  rw [List.getElem?_eq_getElem (by rw [hx]; decide)] at f2
  obtain ⟨a2, e2, w2⟩ := open_Field f2
  simp only [Field.vals, List.cons.injEq, and_true] at e2
  obtain ⟨rfl, rfl⟩ := e2
  have f3 : DataW.trod enc Try.prog w base spare held n 51 [c6, c7] = xs[3]? := by
   have this : DataW.trod enc Try.prog w base spare held n 51 (((_ : List Go.Value).drop (3 * Try.prog.cellsOf 51)).take (Try.prog.cellsOf 51)) = xs[3]? := hf 3 (by decide)
   rw [ce] at this; exact this
  rw [List.getElem?_eq_getElem (by rw [hx]; decide)] at f3
  obtain ⟨a3, e3, w3⟩ := open_Field f3
  simp only [Field.vals, List.cons.injEq, and_true] at e3
  obtain ⟨rfl, rfl⟩ := e3
  exact ⟨⟨a0, a1, a2, a3⟩, rfl, ⟨w0, w1, w2, w3⟩⟩
theorem A4_Field.one (x : (A4 Field)) : ∀ v ∈ A4_Field.vals x, v.oneCell' = true := by simp [A4_Field.vals, Go.Value.oneCell']
def Thing.vals (x : Thing) : List Go.Value := [.int .i64 x.ID, .int .i64 x.At.X, .int .i64 x.At.Y, .int .i64 x.F.a0.N, .string x.F.a0.Text, .int .i64 x.F.a1.N, .string x.F.a1.Text, .int .i64 x.F.a2.N, .string x.F.a2.Text, .int .i64 x.F.a3.N, .string x.F.a3.Text]
def Thing.wf (x : Thing) : Prop := (Lit.int .i64 x.ID).wf = true ∧ Point.wf x.At ∧ A4_Field.wf x.F
theorem Thing.one (x : Thing) : ∀ v ∈ Thing.vals x, v.oneCell' = true := by simp [Thing.vals, Go.Value.oneCell']
def Delta.vals (x : Delta) : List Go.Value := [.int .i64 x.ID, .int .u8 x.Mask, .int .i64 x.At.X, .int .i64 x.At.Y, .int .i64 x.F.a0.N, .string x.F.a0.Text, .int .i64 x.F.a1.N, .string x.F.a1.Text, .int .i64 x.F.a2.N, .string x.F.a2.Text, .int .i64 x.F.a3.N, .string x.F.a3.Text]
def Delta.wf (x : Delta) : Prop := (Lit.int .i64 x.ID).wf = true ∧ (Lit.int .u8 x.Mask).wf = true ∧ Point.wf x.At ∧ A4_Field.wf x.F
theorem Delta.one (x : Delta) : ∀ v ∈ Delta.vals x, v.oneCell' = true := by simp [Delta.vals, Go.Value.oneCell']
def Event.vals (x : Event) : List Go.Value := [.int .i64 x.Kind, .int .i64 x.ID, .int .i64 x.Thing.ID, .int .i64 x.Thing.At.X, .int .i64 x.Thing.At.Y, .int .i64 x.Thing.F.a0.N, .string x.Thing.F.a0.Text, .int .i64 x.Thing.F.a1.N, .string x.Thing.F.a1.Text, .int .i64 x.Thing.F.a2.N, .string x.Thing.F.a2.Text, .int .i64 x.Thing.F.a3.N, .string x.Thing.F.a3.Text, .int .i64 x.Delta.ID, .int .u8 x.Delta.Mask, .int .i64 x.Delta.At.X, .int .i64 x.Delta.At.Y, .int .i64 x.Delta.F.a0.N, .string x.Delta.F.a0.Text, .int .i64 x.Delta.F.a1.N, .string x.Delta.F.a1.Text, .int .i64 x.Delta.F.a2.N, .string x.Delta.F.a2.Text, .int .i64 x.Delta.F.a3.N, .string x.Delta.F.a3.Text]
def Event.wf (x : Event) : Prop := (Lit.int .i64 x.Kind).wf = true ∧ (Lit.int .i64 x.ID).wf = true ∧ Thing.wf x.Thing ∧ Delta.wf x.Delta
theorem Event.one (x : Event) : ∀ v ∈ Event.vals x, v.oneCell' = true := by simp [Event.vals, Go.Value.oneCell']
def Frame.wf (x : Frame) : Prop := (Lit.int .i64 x.From).wf = true ∧ (Lit.int .i64 x.Client).wf = true ∧ (Lit.int .i64 x.Session).wf = true ∧ (Lit.int .i64 x.Start).wf = true ∧ (Lit.int .i64 x.Beat).wf = true ∧ ((∀ a ∈ x.Events, Event.wf a) ∧ x.Events.length ≤ maxLen)
def Rect.vals (x : Rect) : List Go.Value := [.int .i64 x.X0, .int .i64 x.Y0, .int .i64 x.X1, .int .i64 x.Y1]
def Rect.wf (x : Rect) : Prop := (Lit.int .i64 x.X0).wf = true ∧ (Lit.int .i64 x.Y0).wf = true ∧ (Lit.int .i64 x.X1).wf = true ∧ (Lit.int .i64 x.Y1).wf = true
theorem open_Rect {H : Type} {enc : TypeId × Go.Value → H} {w : World} {base : Nat} {spare : Nat → Bool} {held : Bool} {fuel : Nat} {cs : List Go.Value} {x : DataW H × List MemPlace} (h : DataW.trod enc Try.prog w base spare held fuel 61 cs = some x) : ∃ a : Rect, cs = Rect.vals a ∧ Rect.wf a := by
 obtain ⟨xs, n, rfl, rfl, hl, hx, hf⟩ := DataW.trod_struct Try.underlying61 h
 have hl' : cs.length = 4 := hl.trans (by kernel_rfl)
 match cs, hl' with
 | [c0, c1, c2, c3], _ =>
  have f0 : DataW.trod enc Try.prog w base spare held n 3 [c0] = xs[0]? := by
   have ce : Try.prog.cellsOf 3 = 1 := by kernel_rfl
   have this : DataW.trod enc Try.prog w base spare held n 3 (((_ : List Go.Value).drop 0).take (Try.prog.cellsOf 3)) = xs[0]? := hf 0 _ rfl
   rw [ce] at this; exact this
  rw [List.getElem?_eq_getElem (by rw [hx]; decide)] at f0
  obtain ⟨a0, e0, _, w0⟩ := DataW.trod_int Try.underlying3 f0
  simp only [List.cons.injEq, and_true] at e0
  obtain rfl := e0
  have f1 : DataW.trod enc Try.prog w base spare held n 3 [c1] = xs[1]? := by
   have ce : Try.prog.cellsOf 3 = 1 := by kernel_rfl
   have this : DataW.trod enc Try.prog w base spare held n 3 (((_ : List Go.Value).drop 1).take (Try.prog.cellsOf 3)) = xs[1]? := hf 1 _ rfl
   rw [ce] at this; exact this
  rw [List.getElem?_eq_getElem (by rw [hx]; decide)] at f1
  obtain ⟨a1, e1, _, w1⟩ := DataW.trod_int Try.underlying3 f1
  simp only [List.cons.injEq, and_true] at e1
  obtain rfl := e1
  have f2 : DataW.trod enc Try.prog w base spare held n 3 [c2] = xs[2]? := by
   have ce : Try.prog.cellsOf 3 = 1 := by kernel_rfl
   have this : DataW.trod enc Try.prog w base spare held n 3 (((_ : List Go.Value).drop 2).take (Try.prog.cellsOf 3)) = xs[2]? := hf 2 _ rfl
   rw [ce] at this; exact this
  rw [List.getElem?_eq_getElem (by rw [hx]; decide)] at f2
  obtain ⟨a2, e2, _, w2⟩ := DataW.trod_int Try.underlying3 f2
  simp only [List.cons.injEq, and_true] at e2
  obtain rfl := e2
  have f3 : DataW.trod enc Try.prog w base spare held n 3 [c3] = xs[3]? := by
   have ce : Try.prog.cellsOf 3 = 1 := by kernel_rfl
   have this : DataW.trod enc Try.prog w base spare held n 3 (((_ : List Go.Value).drop 3).take (Try.prog.cellsOf 3)) = xs[3]? := hf 3 _ rfl
   rw [ce] at this; exact this
  rw [List.getElem?_eq_getElem (by rw [hx]; decide)] at f3
  obtain ⟨a3, e3, _, w3⟩ := DataW.trod_int Try.underlying3 f3
  simp only [List.cons.injEq, and_true] at e3
  obtain rfl := e3
  exact ⟨⟨a0, a1, a2, a3⟩, rfl, ⟨w0, w1, w2, w3⟩⟩
theorem Rect.one (x : Rect) : ∀ v ∈ Rect.vals x, v.oneCell' = true := by simp [Rect.vals, Go.Value.oneCell']
def Command.vals (x : Command) : List Go.Value := [.int .i64 x.Kind, .int .i64 x.ID, .int .i64 x.Which, .int .i64 x.To, .int .i64 x.At.X, .int .i64 x.At.Y, .int .i64 x.F.a0.N, .string x.F.a0.Text, .int .i64 x.F.a1.N, .string x.F.a1.Text, .int .i64 x.F.a2.N, .string x.F.a2.Text, .int .i64 x.F.a3.N, .string x.F.a3.Text, .int .i64 x.Value.N, .string x.Value.Text, .int .i64 x.Client, .int .i64 x.Session, .int .i64 x.Rect.X0, .int .i64 x.Rect.Y0, .int .i64 x.Rect.X1, .int .i64 x.Rect.Y1]
def Command.wf (x : Command) : Prop := (Lit.int .i64 x.Kind).wf = true ∧ (Lit.int .i64 x.ID).wf = true ∧ (Lit.int .i64 x.Which).wf = true ∧ (Lit.int .i64 x.To).wf = true ∧ Point.wf x.At ∧ A4_Field.wf x.F ∧ Field.wf x.Value ∧ (Lit.int .i64 x.Client).wf = true ∧ (Lit.int .i64 x.Session).wf = true ∧ Rect.wf x.Rect
theorem open_Command {H : Type} {enc : TypeId × Go.Value → H} {w : World} {base : Nat} {spare : Nat → Bool} {held : Bool} {fuel : Nat} {cs : List Go.Value} {x : DataW H × List MemPlace} (h : DataW.trod enc Try.prog w base spare held fuel 63 cs = some x) : ∃ a : Command, cs = Command.vals a ∧ Command.wf a := by
 obtain ⟨xs, n, rfl, rfl, hl, hx, hf⟩ := DataW.trod_struct Try.underlying63 h
 have hl' : cs.length = 22 := hl.trans (by kernel_rfl)
 match cs, hl' with
 | [c0, c1, c2, c3, c4, c5, c6, c7, c8, c9, c10, c11, c12, c13, c14, c15, c16, c17, c18, c19, c20, c21], _ =>
  have f0 : DataW.trod enc Try.prog w base spare held n 3 [c0] = xs[0]? := by
   have ce : Try.prog.cellsOf 3 = 1 := by kernel_rfl
   have this : DataW.trod enc Try.prog w base spare held n 3 (((_ : List Go.Value).drop 0).take (Try.prog.cellsOf 3)) = xs[0]? := hf 0 _ rfl
   rw [ce] at this; exact this
  rw [List.getElem?_eq_getElem (by rw [hx]; decide)] at f0
  obtain ⟨a0, e0, _, w0⟩ := DataW.trod_int Try.underlying3 f0
  simp only [List.cons.injEq, and_true] at e0
  obtain rfl := e0
  have f1 : DataW.trod enc Try.prog w base spare held n 3 [c1] = xs[1]? := by
   have ce : Try.prog.cellsOf 3 = 1 := by kernel_rfl
   have this : DataW.trod enc Try.prog w base spare held n 3 (((_ : List Go.Value).drop 1).take (Try.prog.cellsOf 3)) = xs[1]? := hf 1 _ rfl
   rw [ce] at this; exact this
  rw [List.getElem?_eq_getElem (by rw [hx]; decide)] at f1
  obtain ⟨a1, e1, _, w1⟩ := DataW.trod_int Try.underlying3 f1
  simp only [List.cons.injEq, and_true] at e1
  obtain rfl := e1
  have f2 : DataW.trod enc Try.prog w base spare held n 3 [c2] = xs[2]? := by
   have ce : Try.prog.cellsOf 3 = 1 := by kernel_rfl
   have this : DataW.trod enc Try.prog w base spare held n 3 (((_ : List Go.Value).drop 2).take (Try.prog.cellsOf 3)) = xs[2]? := hf 2 _ rfl
   rw [ce] at this; exact this
  rw [List.getElem?_eq_getElem (by rw [hx]; decide)] at f2
  obtain ⟨a2, e2, _, w2⟩ := DataW.trod_int Try.underlying3 f2
  simp only [List.cons.injEq, and_true] at e2
  obtain rfl := e2
  have f3 : DataW.trod enc Try.prog w base spare held n 3 [c3] = xs[3]? := by
   have ce : Try.prog.cellsOf 3 = 1 := by kernel_rfl
   have this : DataW.trod enc Try.prog w base spare held n 3 (((_ : List Go.Value).drop 3).take (Try.prog.cellsOf 3)) = xs[3]? := hf 3 _ rfl
   rw [ce] at this; exact this
  rw [List.getElem?_eq_getElem (by rw [hx]; decide)] at f3
  obtain ⟨a3, e3, _, w3⟩ := DataW.trod_int Try.underlying3 f3
  simp only [List.cons.injEq, and_true] at e3
  obtain rfl := e3
  have f4 : DataW.trod enc Try.prog w base spare held n 49 [c4, c5] = xs[4]? := by
   have ce : Try.prog.cellsOf 49 = 2 := by kernel_rfl
   have this : DataW.trod enc Try.prog w base spare held n 49 (((_ : List Go.Value).drop 4).take (Try.prog.cellsOf 49)) = xs[4]? := hf 4 _ rfl
   rw [ce] at this; exact this
  rw [List.getElem?_eq_getElem (by rw [hx]; decide)] at f4
  obtain ⟨a4, e4, w4⟩ := open_Point f4
  simp only [Point.vals, List.cons.injEq, and_true] at e4
  obtain ⟨rfl, rfl⟩ := e4
  have f5 : DataW.trod enc Try.prog w base spare held n 52 [c6, c7, c8, c9, c10, c11, c12, c13] = xs[5]? := by
   have ce : Try.prog.cellsOf 52 = 8 := by kernel_rfl
   have this : DataW.trod enc Try.prog w base spare held n 52 (((_ : List Go.Value).drop 6).take (Try.prog.cellsOf 52)) = xs[5]? := hf 5 _ rfl
   rw [ce] at this; exact this
  rw [List.getElem?_eq_getElem (by rw [hx]; decide)] at f5
  obtain ⟨a5, e5, w5⟩ := open_A4_Field f5
  simp only [A4_Field.vals, List.cons.injEq, and_true] at e5
  obtain ⟨rfl, rfl, rfl, rfl, rfl, rfl, rfl, rfl⟩ := e5
  have f6 : DataW.trod enc Try.prog w base spare held n 51 [c14, c15] = xs[6]? := by
   have ce : Try.prog.cellsOf 51 = 2 := by kernel_rfl
   have this : DataW.trod enc Try.prog w base spare held n 51 (((_ : List Go.Value).drop 14).take (Try.prog.cellsOf 51)) = xs[6]? := hf 6 _ rfl
   rw [ce] at this; exact this
  rw [List.getElem?_eq_getElem (by rw [hx]; decide)] at f6
  obtain ⟨a6, e6, w6⟩ := open_Field f6
  simp only [Field.vals, List.cons.injEq, and_true] at e6
  obtain ⟨rfl, rfl⟩ := e6
  have f7 : DataW.trod enc Try.prog w base spare held n 3 [c16] = xs[7]? := by
   have ce : Try.prog.cellsOf 3 = 1 := by kernel_rfl
   have this : DataW.trod enc Try.prog w base spare held n 3 (((_ : List Go.Value).drop 16).take (Try.prog.cellsOf 3)) = xs[7]? := hf 7 _ rfl
   rw [ce] at this; exact this
  rw [List.getElem?_eq_getElem (by rw [hx]; decide)] at f7
  obtain ⟨a7, e7, _, w7⟩ := DataW.trod_int Try.underlying3 f7
  simp only [List.cons.injEq, and_true] at e7
  obtain rfl := e7
  have f8 : DataW.trod enc Try.prog w base spare held n 3 [c17] = xs[8]? := by
   have ce : Try.prog.cellsOf 3 = 1 := by kernel_rfl
   have this : DataW.trod enc Try.prog w base spare held n 3 (((_ : List Go.Value).drop 17).take (Try.prog.cellsOf 3)) = xs[8]? := hf 8 _ rfl
   rw [ce] at this; exact this
  rw [List.getElem?_eq_getElem (by rw [hx]; decide)] at f8
  obtain ⟨a8, e8, _, w8⟩ := DataW.trod_int Try.underlying3 f8
  simp only [List.cons.injEq, and_true] at e8
  obtain rfl := e8
  have f9 : DataW.trod enc Try.prog w base spare held n 61 [c18, c19, c20, c21] = xs[9]? := by
   have ce : Try.prog.cellsOf 61 = 4 := by kernel_rfl
   have this : DataW.trod enc Try.prog w base spare held n 61 (((_ : List Go.Value).drop 18).take (Try.prog.cellsOf 61)) = xs[9]? := hf 9 _ rfl
   rw [ce] at this; exact this
  rw [List.getElem?_eq_getElem (by rw [hx]; decide)] at f9
  obtain ⟨a9, e9, w9⟩ := open_Rect f9
  simp only [Rect.vals, List.cons.injEq, and_true] at e9
  obtain ⟨rfl, rfl, rfl, rfl⟩ := e9
  exact ⟨⟨a0, a1, a2, a3, a4, a5, a6, a7, a8, a9⟩, rfl, ⟨w0, w1, w2, w3, w4, w5, w6, w7, w8, w9⟩⟩
theorem Command.one (x : Command) : ∀ v ∈ Command.vals x, v.oneCell' = true := by simp [Command.vals, Go.Value.oneCell']
end Go.Proofs.Ythdabpmcojmhhaa
