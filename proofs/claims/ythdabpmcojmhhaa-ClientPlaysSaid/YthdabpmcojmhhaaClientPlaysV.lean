/- No condition. -/
import Derived.Test.YthdabpmcojmhhaaClientPlaysE
import Derived.Test.YthdabpmcojmhhaaChecked
import Derived.Test.YthdabpmcojmhhaaRxVa
namespace Go.Proofs.Ythdabpmcojmhhaa
open Go Go.Rx Go.ChangeShapes Go.WideShapes Go.RowKit
set_option maxRecDepth 100000
set_option linter.unusedVariables false
set_option linter.unusedSimpArgs false
set_option linter.unnecessarySimpa false
set_option linter.unnecessarySimpa false
def Point.vals (x : Point) : List Go.Value := [.int .i64 x.X, .int .i64 x.Y]
def Point.wf (x : Point) : Prop := (Lit.int .i64 x.X).wf = true ∧ (Lit.int .i64 x.Y).wf = true
theorem open_Point {H : Type} {enc : TypeId × Go.Value → H} {w : World} {base : Nat} {spare : Nat → Bool} {held : Bool} {fuel : Nat} {cs : List Go.Value} {x : DataW H × List MemPlace} (h : DataW.trod enc Try.prog w base spare held fuel 49 cs = some x) : ∃ a : Point, cs = Point.vals a ∧ Point.wf a := by
 obtain ⟨xs, n, rfl, rfl, hl, hx, hf⟩ := DataW.trod_struct Try.underlying49 h
 have hl' : cs.length = 2 := hl.trans (by kernel_rfl)
 match cs, hl' with
 | [c0, c1], _ =>
  have f0 : DataW.trod enc Try.prog w base spare held n 3 [c0] = xs[0]? := by
   have ce : Try.prog.cellsOf 3 = 1 := by kernel_rfl
   have this : DataW.trod enc Try.prog w base spare held n 3 (((_ : List Go.Value).drop 0).take (Try.prog.cellsOf 3)) = xs[0]? := hf 0 _ rfl
   rw [ce] at this; exact this
  rw [yab (by rw [hx]; decide)] at f0
  obtain ⟨a0, e0, _, w0⟩ := DataW.trod_int Try.underlying3 f0
  simp only [yaf, and_true] at e0
  obtain rfl := e0
  have f1 : DataW.trod enc Try.prog w base spare held n 3 [c1] = xs[1]? := by
   have ce : Try.prog.cellsOf 3 = 1 := by kernel_rfl
   have this : DataW.trod enc Try.prog w base spare held n 3 (((_ : List Go.Value).drop 1).take (Try.prog.cellsOf 3)) = xs[1]? := hf 1 _ rfl
   rw [ce] at this; exact this
  rw [yab (by rw [hx]; decide)] at f1
  obtain ⟨a1, e1, _, w1⟩ := DataW.trod_int Try.underlying3 f1
  simp only [yaf, and_true] at e1
  obtain rfl := e1
  exact ⟨⟨a0, a1⟩, rfl, ⟨w0, w1⟩⟩
theorem Point.len (x : Point) : (Point.vals x).length = 2 := rfl
theorem Point.one (x : Point) : ∀ v ∈ Point.vals x, v.oneCell' = true := by simp [Point.vals, Go.Value.oneCell']
theorem Point.encv (x : Point) : Point.cod.enc x = (Point.vals x).map Lf.val := rfl
def Field.vals (x : Field) : List Go.Value := [.int .i64 x.N, .string x.Text]
def Field.wf (x : Field) : Prop := (Lit.int .i64 x.N).wf = true ∧ x.Text.size ≤ maxLen
theorem zdb {H : Type} {enc : TypeId × Go.Value → H} {w : World} {base : Nat} {spare : Nat → Bool} {held : Bool} {fuel : Nat} {cs : List Go.Value} {x : DataW H × List MemPlace} (h : DataW.trod enc Try.prog w base spare held fuel 51 cs = some x) : ∃ a : Field, cs = Field.vals a ∧ Field.wf a := by
 obtain ⟨xs, n, rfl, rfl, hl, hx, hf⟩ := DataW.trod_struct Try.underlying51 h
 have hl' : cs.length = 2 := hl.trans (by kernel_rfl)
 match cs, hl' with
 | [c0, c1], _ =>
  have f0 : DataW.trod enc Try.prog w base spare held n 2 [c0] = xs[0]? := by
   have ce : Try.prog.cellsOf 2 = 1 := by kernel_rfl
   have this : DataW.trod enc Try.prog w base spare held n 2 (((_ : List Go.Value).drop 0).take (Try.prog.cellsOf 2)) = xs[0]? := hf 0 _ rfl
   rw [ce] at this; exact this
  rw [yab (by rw [hx]; decide)] at f0
  obtain ⟨a0, e0, _, w0⟩ := DataW.trod_int Try.underlying2 f0
  simp only [yaf, and_true] at e0
  obtain rfl := e0
  have f1 : DataW.trod enc Try.prog w base spare held n 9 [c1] = xs[1]? := by
   have ce : Try.prog.cellsOf 9 = 1 := by kernel_rfl
   have this : DataW.trod enc Try.prog w base spare held n 9 (((_ : List Go.Value).drop 1).take (Try.prog.cellsOf 9)) = xs[1]? := hf 1 _ rfl
   rw [ce] at this; exact this
  rw [yab (by rw [hx]; decide)] at f1
  obtain ⟨a1, e1, _, w1⟩ := DataW.trod_string Try.underlying9 f1
  simp only [yaf, and_true] at e1
  obtain rfl := e1
  exact ⟨⟨a0, a1⟩, rfl, ⟨w0, w1⟩⟩
theorem Field.len (x : Field) : (Field.vals x).length = 2 := rfl
theorem Field.one (x : Field) : ∀ v ∈ Field.vals x, v.oneCell' = true := by simp [Field.vals, Go.Value.oneCell']
theorem Field.encv (x : Field) : Field.cod.enc x = (Field.vals x).map Lf.val := rfl
def A4_Field.vals (x : (A4 Field)) : List Go.Value := [.int .i64 x.a0.N, .string x.a0.Text, .int .i64 x.a1.N, .string x.a1.Text, .int .i64 x.a2.N, .string x.a2.Text, .int .i64 x.a3.N, .string x.a3.Text]
def A4_Field.wf (x : (A4 Field)) : Prop := Field.wf x.a0 ∧ Field.wf x.a1 ∧ Field.wf x.a2 ∧ Field.wf x.a3
theorem zdl {H : Type} {enc : TypeId × Go.Value → H} {w : World} {base : Nat} {spare : Nat → Bool} {held : Bool} {fuel : Nat} {cs : List Go.Value} {x : DataW H × List MemPlace} (h : DataW.trod enc Try.prog w base spare held fuel 52 cs = some x) : ∃ a : (A4 Field), cs = A4_Field.vals a ∧ A4_Field.wf a := by
 obtain ⟨xs, n, rfl, rfl, hl, hx, hf⟩ := DataW.trod_array Try.underlying52 h
 have hl' : cs.length = 8 := hl.trans (by kernel_rfl)
 match cs, hl' with
 | [c0, c1, c2, c3, c4, c5, c6, c7], _ =>
  have ce : Try.prog.cellsOf 51 = 2 := by kernel_rfl
  have f0 : DataW.trod enc Try.prog w base spare held n 51 [c0, c1] = xs[0]? := by
   have this : DataW.trod enc Try.prog w base spare held n 51 (((_ : List Go.Value).drop (0 * Try.prog.cellsOf 51)).take (Try.prog.cellsOf 51)) = xs[0]? := hf 0 (by decide)
   rw [ce] at this; exact this
  rw [yab (by rw [hx]; decide)] at f0
  obtain ⟨a0, e0, w0⟩ := zdb f0
  simp only [Field.vals, yaf, and_true] at e0
  obtain ⟨rfl, rfl⟩ := e0
  have f1 : DataW.trod enc Try.prog w base spare held n 51 [c2, c3] = xs[1]? := by
   have this : DataW.trod enc Try.prog w base spare held n 51 (((_ : List Go.Value).drop (1 * Try.prog.cellsOf 51)).take (Try.prog.cellsOf 51)) = xs[1]? := hf 1 (by decide)
   rw [ce] at this; exact this
  rw [yab (by rw [hx]; decide)] at f1
  obtain ⟨a1, e1, w1⟩ := zdb f1
  simp only [Field.vals, yaf, and_true] at e1
  obtain ⟨rfl, rfl⟩ := e1
  have f2 : DataW.trod enc Try.prog w base spare held n 51 [c4, c5] = xs[2]? := by
   have this : DataW.trod enc Try.prog w base spare held n 51 (((_ : List Go.Value).drop (2 * Try.prog.cellsOf 51)).take (Try.prog.cellsOf 51)) = xs[2]? := hf 2 (by decide)
   rw [ce] at this; exact this
  rw [yab (by rw [hx]; decide)] at f2
  obtain ⟨a2, e2, w2⟩ := zdb f2
  simp only [Field.vals, yaf, and_true] at e2
  obtain ⟨rfl, rfl⟩ := e2
  have f3 : DataW.trod enc Try.prog w base spare held n 51 [c6, c7] = xs[3]? := by
   have this : DataW.trod enc Try.prog w base spare held n 51 (((_ : List Go.Value).drop (3 * Try.prog.cellsOf 51)).take (Try.prog.cellsOf 51)) = xs[3]? := hf 3 (by decide)
   rw [ce] at this; exact this
  rw [yab (by rw [hx]; decide)] at f3
  obtain ⟨a3, e3, w3⟩ := zdb f3
  simp only [Field.vals, yaf, and_true] at e3
  obtain ⟨rfl, rfl⟩ := e3
  exact ⟨⟨a0, a1, a2, a3⟩, rfl, ⟨w0, w1, w2, w3⟩⟩
theorem A4_Field.len (x : (A4 Field)) : (A4_Field.vals x).length = 8 := rfl
theorem A4_Field.one (x : (A4 Field)) : ∀ v ∈ A4_Field.vals x, v.oneCell' = true := by simp [A4_Field.vals, Go.Value.oneCell']
def Thing.vals (x : Thing) : List Go.Value := [.int .i64 x.ID, .int .i64 x.At.X, .int .i64 x.At.Y, .int .i64 x.F.a0.N, .string x.F.a0.Text, .int .i64 x.F.a1.N, .string x.F.a1.Text, .int .i64 x.F.a2.N, .string x.F.a2.Text, .int .i64 x.F.a3.N, .string x.F.a3.Text]
def Thing.wf (x : Thing) : Prop := (Lit.int .i64 x.ID).wf = true ∧ Point.wf x.At ∧ A4_Field.wf x.F
theorem open_Thing {H : Type} {enc : TypeId × Go.Value → H} {w : World} {base : Nat} {spare : Nat → Bool} {held : Bool} {fuel : Nat} {cs : List Go.Value} {x : DataW H × List MemPlace} (h : DataW.trod enc Try.prog w base spare held fuel 54 cs = some x) : ∃ a : Thing, cs = Thing.vals a ∧ Thing.wf a := by
 obtain ⟨xs, n, rfl, rfl, hl, hx, hf⟩ := DataW.trod_struct Try.underlying54 h
 have hl' : cs.length = 11 := hl.trans (by kernel_rfl)
 match cs, hl' with
 | [c0, c1, c2, c3, c4, c5, c6, c7, c8, c9, c10], _ =>
  have f0 : DataW.trod enc Try.prog w base spare held n 3 [c0] = xs[0]? := by
   have ce : Try.prog.cellsOf 3 = 1 := by kernel_rfl
   have this : DataW.trod enc Try.prog w base spare held n 3 (((_ : List Go.Value).drop 0).take (Try.prog.cellsOf 3)) = xs[0]? := hf 0 _ rfl
   rw [ce] at this; exact this
  rw [yab (by rw [hx]; decide)] at f0
  obtain ⟨a0, e0, _, w0⟩ := DataW.trod_int Try.underlying3 f0
  simp only [yaf, and_true] at e0
  obtain rfl := e0
  have f1 : DataW.trod enc Try.prog w base spare held n 49 [c1, c2] = xs[1]? := by
   have ce : Try.prog.cellsOf 49 = 2 := by kernel_rfl
   have this : DataW.trod enc Try.prog w base spare held n 49 (((_ : List Go.Value).drop 1).take (Try.prog.cellsOf 49)) = xs[1]? := hf 1 _ rfl
   rw [ce] at this; exact this
  rw [yab (by rw [hx]; decide)] at f1
  obtain ⟨a1, e1, w1⟩ := open_Point f1
  simp only [Point.vals, yaf, and_true] at e1
  obtain ⟨rfl, rfl⟩ := e1
  have f2 : DataW.trod enc Try.prog w base spare held n 52 [c3, c4, c5, c6, c7, c8, c9, c10] = xs[2]? := by
   have ce : Try.prog.cellsOf 52 = 8 := by kernel_rfl
   have this : DataW.trod enc Try.prog w base spare held n 52 (((_ : List Go.Value).drop 3).take (Try.prog.cellsOf 52)) = xs[2]? := hf 2 _ rfl
   rw [ce] at this; exact this
  rw [yab (by rw [hx]; decide)] at f2
  obtain ⟨a2, e2, w2⟩ := zdl f2
  simp only [A4_Field.vals, yaf, and_true] at e2
  obtain ⟨rfl, rfl, rfl, rfl, rfl, rfl, rfl, rfl⟩ := e2
  exact ⟨⟨a0, a1, a2⟩, rfl, ⟨w0, w1, w2⟩⟩
theorem Thing.len (x : Thing) : (Thing.vals x).length = 11 := rfl
theorem Thing.one (x : Thing) : ∀ v ∈ Thing.vals x, v.oneCell' = true := by simp [Thing.vals, Go.Value.oneCell']
theorem Thing.encv (x : Thing) : Thing.cod.enc x = (Thing.vals x).map Lf.val := rfl
def Delta.vals (x : Delta) : List Go.Value := [.int .i64 x.ID, .int .u8 x.Mask, .int .i64 x.At.X, .int .i64 x.At.Y, .int .i64 x.F.a0.N, .string x.F.a0.Text, .int .i64 x.F.a1.N, .string x.F.a1.Text, .int .i64 x.F.a2.N, .string x.F.a2.Text, .int .i64 x.F.a3.N, .string x.F.a3.Text]
def Delta.wf (x : Delta) : Prop := (Lit.int .i64 x.ID).wf = true ∧ (Lit.int .u8 x.Mask).wf = true ∧ Point.wf x.At ∧ A4_Field.wf x.F
theorem open_Delta {H : Type} {enc : TypeId × Go.Value → H} {w : World} {base : Nat} {spare : Nat → Bool} {held : Bool} {fuel : Nat} {cs : List Go.Value} {x : DataW H × List MemPlace} (h : DataW.trod enc Try.prog w base spare held fuel 56 cs = some x) : ∃ a : Delta, cs = Delta.vals a ∧ Delta.wf a := by
 obtain ⟨xs, n, rfl, rfl, hl, hx, hf⟩ := DataW.trod_struct Try.underlying56 h
 have hl' : cs.length = 12 := hl.trans (by kernel_rfl)
 match cs, hl' with
 | [c0, c1, c2, c3, c4, c5, c6, c7, c8, c9, c10, c11], _ =>
  have f0 : DataW.trod enc Try.prog w base spare held n 3 [c0] = xs[0]? := by
   have ce : Try.prog.cellsOf 3 = 1 := by kernel_rfl
   have this : DataW.trod enc Try.prog w base spare held n 3 (((_ : List Go.Value).drop 0).take (Try.prog.cellsOf 3)) = xs[0]? := hf 0 _ rfl
   rw [ce] at this; exact this
  rw [yab (by rw [hx]; decide)] at f0
  obtain ⟨a0, e0, _, w0⟩ := DataW.trod_int Try.underlying3 f0
  simp only [yaf, and_true] at e0
  obtain rfl := e0
  have f1 : DataW.trod enc Try.prog w base spare held n 5 [c1] = xs[1]? := by
   have ce : Try.prog.cellsOf 5 = 1 := by kernel_rfl
   have this : DataW.trod enc Try.prog w base spare held n 5 (((_ : List Go.Value).drop 1).take (Try.prog.cellsOf 5)) = xs[1]? := hf 1 _ rfl
   rw [ce] at this; exact this
  rw [yab (by rw [hx]; decide)] at f1
  obtain ⟨a1, e1, _, w1⟩ := DataW.trod_int Try.underlying5 f1
  simp only [yaf, and_true] at e1
  obtain rfl := e1
  have f2 : DataW.trod enc Try.prog w base spare held n 49 [c2, c3] = xs[2]? := by
   have ce : Try.prog.cellsOf 49 = 2 := by kernel_rfl
   have this : DataW.trod enc Try.prog w base spare held n 49 (((_ : List Go.Value).drop 2).take (Try.prog.cellsOf 49)) = xs[2]? := hf 2 _ rfl
   rw [ce] at this; exact this
  rw [yab (by rw [hx]; decide)] at f2
  obtain ⟨a2, e2, w2⟩ := open_Point f2
  simp only [Point.vals, yaf, and_true] at e2
  obtain ⟨rfl, rfl⟩ := e2
  have f3 : DataW.trod enc Try.prog w base spare held n 52 [c4, c5, c6, c7, c8, c9, c10, c11] = xs[3]? := by
   have ce : Try.prog.cellsOf 52 = 8 := by kernel_rfl
   have this : DataW.trod enc Try.prog w base spare held n 52 (((_ : List Go.Value).drop 4).take (Try.prog.cellsOf 52)) = xs[3]? := hf 3 _ rfl
   rw [ce] at this; exact this
  rw [yab (by rw [hx]; decide)] at f3
  obtain ⟨a3, e3, w3⟩ := zdl f3
  simp only [A4_Field.vals, yaf, and_true] at e3
  obtain ⟨rfl, rfl, rfl, rfl, rfl, rfl, rfl, rfl⟩ := e3
  exact ⟨⟨a0, a1, a2, a3⟩, rfl, ⟨w0, w1, w2, w3⟩⟩
theorem Delta.len (x : Delta) : (Delta.vals x).length = 12 := rfl
theorem Delta.one (x : Delta) : ∀ v ∈ Delta.vals x, v.oneCell' = true := by simp [Delta.vals, Go.Value.oneCell']
theorem Delta.encv (x : Delta) : Delta.cod.enc x = (Delta.vals x).map Lf.val := rfl
def Event.vals (x : Event) : List Go.Value := [.int .i64 x.Kind, .int .i64 x.ID, .int .i64 x.Thing.ID, .int .i64 x.Thing.At.X, .int .i64 x.Thing.At.Y, .int .i64 x.Thing.F.a0.N, .string x.Thing.F.a0.Text, .int .i64 x.Thing.F.a1.N, .string x.Thing.F.a1.Text, .int .i64 x.Thing.F.a2.N, .string x.Thing.F.a2.Text, .int .i64 x.Thing.F.a3.N, .string x.Thing.F.a3.Text, .int .i64 x.Delta.ID, .int .u8 x.Delta.Mask, .int .i64 x.Delta.At.X, .int .i64 x.Delta.At.Y, .int .i64 x.Delta.F.a0.N, .string x.Delta.F.a0.Text, .int .i64 x.Delta.F.a1.N, .string x.Delta.F.a1.Text, .int .i64 x.Delta.F.a2.N, .string x.Delta.F.a2.Text, .int .i64 x.Delta.F.a3.N, .string x.Delta.F.a3.Text]
def Event.wf (x : Event) : Prop := (Lit.int .i64 x.Kind).wf = true ∧ (Lit.int .i64 x.ID).wf = true ∧ Thing.wf x.Thing ∧ Delta.wf x.Delta
theorem open_Event {H : Type} {enc : TypeId × Go.Value → H} {w : World} {base : Nat} {spare : Nat → Bool} {held : Bool} {fuel : Nat} {cs : List Go.Value} {x : DataW H × List MemPlace} (h : DataW.trod enc Try.prog w base spare held fuel 58 cs = some x) : ∃ a : Event, cs = Event.vals a ∧ Event.wf a := by
 obtain ⟨xs, n, rfl, rfl, hl, hx, hf⟩ := DataW.trod_struct Try.underlying58 h
 have hl' : cs.length = 25 := hl.trans (by kernel_rfl)
 match cs, hl' with
 | [c0, c1, c2, c3, c4, c5, c6, c7, c8, c9, c10, c11, c12, c13, c14, c15, c16, c17, c18, c19, c20, c21, c22, c23, c24], _ =>
  have f0 : DataW.trod enc Try.prog w base spare held n 3 [c0] = xs[0]? := by
   have ce : Try.prog.cellsOf 3 = 1 := by kernel_rfl
   have this : DataW.trod enc Try.prog w base spare held n 3 (((_ : List Go.Value).drop 0).take (Try.prog.cellsOf 3)) = xs[0]? := hf 0 _ rfl
   rw [ce] at this; exact this
  rw [yab (by rw [hx]; decide)] at f0
  obtain ⟨a0, e0, _, w0⟩ := DataW.trod_int Try.underlying3 f0
  simp only [yaf, and_true] at e0
  obtain rfl := e0
  have f1 : DataW.trod enc Try.prog w base spare held n 3 [c1] = xs[1]? := by
   have ce : Try.prog.cellsOf 3 = 1 := by kernel_rfl
   have this : DataW.trod enc Try.prog w base spare held n 3 (((_ : List Go.Value).drop 1).take (Try.prog.cellsOf 3)) = xs[1]? := hf 1 _ rfl
   rw [ce] at this; exact this
  rw [yab (by rw [hx]; decide)] at f1
  obtain ⟨a1, e1, _, w1⟩ := DataW.trod_int Try.underlying3 f1
  simp only [yaf, and_true] at e1
  obtain rfl := e1
  have f2 : DataW.trod enc Try.prog w base spare held n 54 [c2, c3, c4, c5, c6, c7, c8, c9, c10, c11, c12] = xs[2]? := by
   have ce : Try.prog.cellsOf 54 = 11 := by kernel_rfl
   have this : DataW.trod enc Try.prog w base spare held n 54 (((_ : List Go.Value).drop 2).take (Try.prog.cellsOf 54)) = xs[2]? := hf 2 _ rfl
   rw [ce] at this; exact this
  rw [yab (by rw [hx]; decide)] at f2
  obtain ⟨a2, e2, w2⟩ := open_Thing f2
  simp only [Thing.vals, yaf, and_true] at e2
  obtain ⟨rfl, rfl, rfl, rfl, rfl, rfl, rfl, rfl, rfl, rfl, rfl⟩ := e2
  have f3 : DataW.trod enc Try.prog w base spare held n 56 [c13, c14, c15, c16, c17, c18, c19, c20, c21, c22, c23, c24] = xs[3]? := by
   have ce : Try.prog.cellsOf 56 = 12 := by kernel_rfl
   have this : DataW.trod enc Try.prog w base spare held n 56 (((_ : List Go.Value).drop 13).take (Try.prog.cellsOf 56)) = xs[3]? := hf 3 _ rfl
   rw [ce] at this; exact this
  rw [yab (by rw [hx]; decide)] at f3
  obtain ⟨a3, e3, w3⟩ := open_Delta f3
  simp only [Delta.vals, yaf, and_true] at e3
  obtain ⟨rfl, rfl, rfl, rfl, rfl, rfl, rfl, rfl, rfl, rfl, rfl, rfl⟩ := e3
  exact ⟨⟨a0, a1, a2, a3⟩, rfl, ⟨w0, w1, w2, w3⟩⟩
theorem Event.len (x : Event) : (Event.vals x).length = 25 := rfl
theorem Event.one (x : Event) : ∀ v ∈ Event.vals x, v.oneCell' = true := by simp [Event.vals, Go.Value.oneCell']
theorem Event.encv (x : Event) : Event.cod.enc x = (Event.vals x).map Lf.val := rfl
def Frame.wf (x : Frame) : Prop := (Lit.int .i64 x.From).wf = true ∧ (Lit.int .i64 x.Client).wf = true ∧ (Lit.int .i64 x.Session).wf = true ∧ (Lit.int .i64 x.Start).wf = true ∧ (Lit.int .i64 x.Beat).wf = true ∧ ((∀ a ∈ x.Events, Event.wf a) ∧ x.Events.length ≤ maxLen)
theorem openN_Frame {H : Type} {enc : TypeId × Go.Value → H} {w : World} {fuel : Nat} {cs : List Go.Value} {x : DataW H × List MemPlace} (h : DataW.trod enc Try.prog w 0 (fun _ => true) true fuel 32 cs = some x) : ∃ a : Frame, RelL w cs (Frame.cells a) ∧ Frame.wf a := by
 obtain ⟨xs, n, rfl, rfl, hl, hx, hf⟩ := DataW.trod_struct Try.underlying32 h
 have hl' : cs.length = 6 := hl.trans (by kernel_rfl)
 match cs, hl' with
 | [c0, c1, c2, c3, c4, c5], _ =>
  have f0 : DataW.trod enc Try.prog w 0 (fun _ => true) true n 3 [c0] = xs[0]? := by
   have ce : Try.prog.cellsOf 3 = 1 := by kernel_rfl
   have this : DataW.trod enc Try.prog w 0 (fun _ => true) true n 3 (((_ : List Go.Value).drop 0).take (Try.prog.cellsOf 3)) = xs[0]? := hf 0 _ rfl
   rw [ce] at this; exact this
  rw [yab (by rw [hx]; decide)] at f0
  obtain ⟨a0, e0, _, w0⟩ := DataW.trod_int Try.underlying3 f0
  simp only [yaf, and_true] at e0
  obtain rfl := e0
  have f1 : DataW.trod enc Try.prog w 0 (fun _ => true) true n 3 [c1] = xs[1]? := by
   have ce : Try.prog.cellsOf 3 = 1 := by kernel_rfl
   have this : DataW.trod enc Try.prog w 0 (fun _ => true) true n 3 (((_ : List Go.Value).drop 1).take (Try.prog.cellsOf 3)) = xs[1]? := hf 1 _ rfl
   rw [ce] at this; exact this
  rw [yab (by rw [hx]; decide)] at f1
  obtain ⟨a1, e1, _, w1⟩ := DataW.trod_int Try.underlying3 f1
  simp only [yaf, and_true] at e1
  obtain rfl := e1
  have f2 : DataW.trod enc Try.prog w 0 (fun _ => true) true n 3 [c2] = xs[2]? := by
   have ce : Try.prog.cellsOf 3 = 1 := by kernel_rfl
   have this : DataW.trod enc Try.prog w 0 (fun _ => true) true n 3 (((_ : List Go.Value).drop 2).take (Try.prog.cellsOf 3)) = xs[2]? := hf 2 _ rfl
   rw [ce] at this; exact this
  rw [yab (by rw [hx]; decide)] at f2
  obtain ⟨a2, e2, _, w2⟩ := DataW.trod_int Try.underlying3 f2
  simp only [yaf, and_true] at e2
  obtain rfl := e2
  have f3 : DataW.trod enc Try.prog w 0 (fun _ => true) true n 3 [c3] = xs[3]? := by
   have ce : Try.prog.cellsOf 3 = 1 := by kernel_rfl
   have this : DataW.trod enc Try.prog w 0 (fun _ => true) true n 3 (((_ : List Go.Value).drop 3).take (Try.prog.cellsOf 3)) = xs[3]? := hf 3 _ rfl
   rw [ce] at this; exact this
  rw [yab (by rw [hx]; decide)] at f3
  obtain ⟨a3, e3, _, w3⟩ := DataW.trod_int Try.underlying3 f3
  simp only [yaf, and_true] at e3
  obtain rfl := e3
  have f4 : DataW.trod enc Try.prog w 0 (fun _ => true) true n 3 [c4] = xs[4]? := by
   have ce : Try.prog.cellsOf 3 = 1 := by kernel_rfl
   have this : DataW.trod enc Try.prog w 0 (fun _ => true) true n 3 (((_ : List Go.Value).drop 4).take (Try.prog.cellsOf 3)) = xs[4]? := hf 4 _ rfl
   rw [ce] at this; exact this
  rw [yab (by rw [hx]; decide)] at f4
  obtain ⟨a4, e4, _, w4⟩ := DataW.trod_int Try.underlying3 f4
  simp only [yaf, and_true] at e4
  obtain rfl := e4
  have f5 : DataW.trod enc Try.prog w 0 (fun _ => true) true n 30 [c5] = xs[5]? := by
   have ce : Try.prog.cellsOf 30 = 1 := by kernel_rfl
   have this : DataW.trod enc Try.prog w 0 (fun _ => true) true n 30 (((_ : List Go.Value).drop 5).take (Try.prog.cellsOf 30)) = xs[5]? := hf 5 _ rfl
   rw [ce] at this; exact this
  rw [yab (by rw [hx]; decide)] at f5
  obtain ⟨a5, l5, w5⟩ := zgc (c := Event.cod) (vals := Event.vals) (wf := Event.wf) Try.underlying30 (by kernel_rfl) (by decide) (fun _ _ _ h => open_Event h) Event.len Event.encv Event.one f5
  exact ⟨⟨a0, a1, a2, a3, a4, a5⟩, (RelL.cons (.val _ rfl) (RelL.cons (.val _ rfl) (RelL.cons (.val _ rfl) (RelL.cons (.val _ rfl) (RelL.cons (.val _ rfl) (RelL.cons l5 RelL.nil)))))), ⟨w0, w1, w2, w3, w4, w5⟩⟩
def Rect.vals (x : Rect) : List Go.Value := [.int .i64 x.X0, .int .i64 x.Y0, .int .i64 x.X1, .int .i64 x.Y1]
def Rect.wf (x : Rect) : Prop := (Lit.int .i64 x.X0).wf = true ∧ (Lit.int .i64 x.Y0).wf = true ∧ (Lit.int .i64 x.X1).wf = true ∧ (Lit.int .i64 x.Y1).wf = true
theorem open_Rect {H : Type} {enc : TypeId × Go.Value → H} {w : World} {base : Nat} {spare : Nat → Bool} {held : Bool} {fuel : Nat} {cs : List Go.Value} {x : DataW H × List MemPlace} (h : DataW.trod enc Try.prog w base spare held fuel 61 cs = some x) : ∃ a : Rect, cs = Rect.vals a ∧ Rect.wf a := by
 obtain ⟨xs, n, rfl, rfl, hl, hx, hf⟩ := DataW.trod_struct Try.underlying61 h
 have hl' : cs.length = 4 := hl.trans (by kernel_rfl)
 match cs, hl' with
 | [c0, c1, c2, c3], _ =>
  have f0 : DataW.trod enc Try.prog w base spare held n 3 [c0] = xs[0]? := by
   have ce : Try.prog.cellsOf 3 = 1 := by kernel_rfl
   have this : DataW.trod enc Try.prog w base spare held n 3 (((_ : List Go.Value).drop 0).take (Try.prog.cellsOf 3)) = xs[0]? := hf 0 _ rfl
   rw [ce] at this; exact this
  rw [yab (by rw [hx]; decide)] at f0
  obtain ⟨a0, e0, _, w0⟩ := DataW.trod_int Try.underlying3 f0
  simp only [yaf, and_true] at e0
  obtain rfl := e0
  have f1 : DataW.trod enc Try.prog w base spare held n 3 [c1] = xs[1]? := by
   have ce : Try.prog.cellsOf 3 = 1 := by kernel_rfl
   have this : DataW.trod enc Try.prog w base spare held n 3 (((_ : List Go.Value).drop 1).take (Try.prog.cellsOf 3)) = xs[1]? := hf 1 _ rfl
   rw [ce] at this; exact this
  rw [yab (by rw [hx]; decide)] at f1
  obtain ⟨a1, e1, _, w1⟩ := DataW.trod_int Try.underlying3 f1
  simp only [yaf, and_true] at e1
  obtain rfl := e1
  have f2 : DataW.trod enc Try.prog w base spare held n 3 [c2] = xs[2]? := by
   have ce : Try.prog.cellsOf 3 = 1 := by kernel_rfl
   have this : DataW.trod enc Try.prog w base spare held n 3 (((_ : List Go.Value).drop 2).take (Try.prog.cellsOf 3)) = xs[2]? := hf 2 _ rfl
   rw [ce] at this; exact this
  rw [yab (by rw [hx]; decide)] at f2
  obtain ⟨a2, e2, _, w2⟩ := DataW.trod_int Try.underlying3 f2
  simp only [yaf, and_true] at e2
  obtain rfl := e2
  have f3 : DataW.trod enc Try.prog w base spare held n 3 [c3] = xs[3]? := by
   have ce : Try.prog.cellsOf 3 = 1 := by kernel_rfl
   have this : DataW.trod enc Try.prog w base spare held n 3 (((_ : List Go.Value).drop 3).take (Try.prog.cellsOf 3)) = xs[3]? := hf 3 _ rfl
   rw [ce] at this; exact this
  rw [yab (by rw [hx]; decide)] at f3
  obtain ⟨a3, e3, _, w3⟩ := DataW.trod_int Try.underlying3 f3
  simp only [yaf, and_true] at e3
  obtain rfl := e3
  exact ⟨⟨a0, a1, a2, a3⟩, rfl, ⟨w0, w1, w2, w3⟩⟩
theorem Rect.len (x : Rect) : (Rect.vals x).length = 4 := rfl
theorem Rect.one (x : Rect) : ∀ v ∈ Rect.vals x, v.oneCell' = true := by simp [Rect.vals, Go.Value.oneCell']
theorem Rect.encv (x : Rect) : Rect.cod.enc x = (Rect.vals x).map Lf.val := rfl
def Command.vals (x : Command) : List Go.Value := [.int .i64 x.Kind, .int .i64 x.ID, .int .i64 x.Which, .int .i64 x.To, .int .i64 x.At.X, .int .i64 x.At.Y, .int .i64 x.F.a0.N, .string x.F.a0.Text, .int .i64 x.F.a1.N, .string x.F.a1.Text, .int .i64 x.F.a2.N, .string x.F.a2.Text, .int .i64 x.F.a3.N, .string x.F.a3.Text, .int .i64 x.Value.N, .string x.Value.Text, .int .i64 x.Client, .int .i64 x.Session, .int .i64 x.Rect.X0, .int .i64 x.Rect.Y0, .int .i64 x.Rect.X1, .int .i64 x.Rect.Y1]
def Command.wf (x : Command) : Prop := (Lit.int .i64 x.Kind).wf = true ∧ (Lit.int .i64 x.ID).wf = true ∧ (Lit.int .i64 x.Which).wf = true ∧ (Lit.int .i64 x.To).wf = true ∧ Point.wf x.At ∧ A4_Field.wf x.F ∧ Field.wf x.Value ∧ (Lit.int .i64 x.Client).wf = true ∧ (Lit.int .i64 x.Session).wf = true ∧ Rect.wf x.Rect
theorem zeb {H : Type} {enc : TypeId × Go.Value → H} {w : World} {base : Nat} {spare : Nat → Bool} {held : Bool} {fuel : Nat} {cs : List Go.Value} {x : DataW H × List MemPlace} (h : DataW.trod enc Try.prog w base spare held fuel 63 cs = some x) : ∃ a : Command, cs = Command.vals a ∧ Command.wf a := by
 obtain ⟨xs, n, rfl, rfl, hl, hx, hf⟩ := DataW.trod_struct Try.underlying63 h
 have hl' : cs.length = 22 := hl.trans (by kernel_rfl)
 match cs, hl' with
 | [c0, c1, c2, c3, c4, c5, c6, c7, c8, c9, c10, c11, c12, c13, c14, c15, c16, c17, c18, c19, c20, c21], _ =>
  have f0 : DataW.trod enc Try.prog w base spare held n 3 [c0] = xs[0]? := by
   have ce : Try.prog.cellsOf 3 = 1 := by kernel_rfl
   have this : DataW.trod enc Try.prog w base spare held n 3 (((_ : List Go.Value).drop 0).take (Try.prog.cellsOf 3)) = xs[0]? := hf 0 _ rfl
   rw [ce] at this; exact this
  rw [yab (by rw [hx]; decide)] at f0
  obtain ⟨a0, e0, _, w0⟩ := DataW.trod_int Try.underlying3 f0
  simp only [yaf, and_true] at e0
  obtain rfl := e0
  have f1 : DataW.trod enc Try.prog w base spare held n 3 [c1] = xs[1]? := by
   have ce : Try.prog.cellsOf 3 = 1 := by kernel_rfl
   have this : DataW.trod enc Try.prog w base spare held n 3 (((_ : List Go.Value).drop 1).take (Try.prog.cellsOf 3)) = xs[1]? := hf 1 _ rfl
   rw [ce] at this; exact this
  rw [yab (by rw [hx]; decide)] at f1
  obtain ⟨a1, e1, _, w1⟩ := DataW.trod_int Try.underlying3 f1
  simp only [yaf, and_true] at e1
  obtain rfl := e1
  have f2 : DataW.trod enc Try.prog w base spare held n 3 [c2] = xs[2]? := by
   have ce : Try.prog.cellsOf 3 = 1 := by kernel_rfl
   have this : DataW.trod enc Try.prog w base spare held n 3 (((_ : List Go.Value).drop 2).take (Try.prog.cellsOf 3)) = xs[2]? := hf 2 _ rfl
   rw [ce] at this; exact this
  rw [yab (by rw [hx]; decide)] at f2
  obtain ⟨a2, e2, _, w2⟩ := DataW.trod_int Try.underlying3 f2
  simp only [yaf, and_true] at e2
  obtain rfl := e2
  have f3 : DataW.trod enc Try.prog w base spare held n 3 [c3] = xs[3]? := by
   have ce : Try.prog.cellsOf 3 = 1 := by kernel_rfl
   have this : DataW.trod enc Try.prog w base spare held n 3 (((_ : List Go.Value).drop 3).take (Try.prog.cellsOf 3)) = xs[3]? := hf 3 _ rfl
   rw [ce] at this; exact this
  rw [yab (by rw [hx]; decide)] at f3
  obtain ⟨a3, e3, _, w3⟩ := DataW.trod_int Try.underlying3 f3
  simp only [yaf, and_true] at e3
  obtain rfl := e3
  have f4 : DataW.trod enc Try.prog w base spare held n 49 [c4, c5] = xs[4]? := by
   have ce : Try.prog.cellsOf 49 = 2 := by kernel_rfl
   have this : DataW.trod enc Try.prog w base spare held n 49 (((_ : List Go.Value).drop 4).take (Try.prog.cellsOf 49)) = xs[4]? := hf 4 _ rfl
   rw [ce] at this; exact this
  rw [yab (by rw [hx]; decide)] at f4
  obtain ⟨a4, e4, w4⟩ := open_Point f4
  simp only [Point.vals, yaf, and_true] at e4
  obtain ⟨rfl, rfl⟩ := e4
  have f5 : DataW.trod enc Try.prog w base spare held n 52 [c6, c7, c8, c9, c10, c11, c12, c13] = xs[5]? := by
   have ce : Try.prog.cellsOf 52 = 8 := by kernel_rfl
   have this : DataW.trod enc Try.prog w base spare held n 52 (((_ : List Go.Value).drop 6).take (Try.prog.cellsOf 52)) = xs[5]? := hf 5 _ rfl
   rw [ce] at this; exact this
  rw [yab (by rw [hx]; decide)] at f5
  obtain ⟨a5, e5, w5⟩ := zdl f5
  simp only [A4_Field.vals, yaf, and_true] at e5
  obtain ⟨rfl, rfl, rfl, rfl, rfl, rfl, rfl, rfl⟩ := e5
  have f6 : DataW.trod enc Try.prog w base spare held n 51 [c14, c15] = xs[6]? := by
   have ce : Try.prog.cellsOf 51 = 2 := by kernel_rfl
   have this : DataW.trod enc Try.prog w base spare held n 51 (((_ : List Go.Value).drop 14).take (Try.prog.cellsOf 51)) = xs[6]? := hf 6 _ rfl
   rw [ce] at this; exact this
  rw [yab (by rw [hx]; decide)] at f6
  obtain ⟨a6, e6, w6⟩ := zdb f6
  simp only [Field.vals, yaf, and_true] at e6
  obtain ⟨rfl, rfl⟩ := e6
  have f7 : DataW.trod enc Try.prog w base spare held n 3 [c16] = xs[7]? := by
   have ce : Try.prog.cellsOf 3 = 1 := by kernel_rfl
   have this : DataW.trod enc Try.prog w base spare held n 3 (((_ : List Go.Value).drop 16).take (Try.prog.cellsOf 3)) = xs[7]? := hf 7 _ rfl
   rw [ce] at this; exact this
  rw [yab (by rw [hx]; decide)] at f7
  obtain ⟨a7, e7, _, w7⟩ := DataW.trod_int Try.underlying3 f7
  simp only [yaf, and_true] at e7
  obtain rfl := e7
  have f8 : DataW.trod enc Try.prog w base spare held n 3 [c17] = xs[8]? := by
   have ce : Try.prog.cellsOf 3 = 1 := by kernel_rfl
   have this : DataW.trod enc Try.prog w base spare held n 3 (((_ : List Go.Value).drop 17).take (Try.prog.cellsOf 3)) = xs[8]? := hf 8 _ rfl
   rw [ce] at this; exact this
  rw [yab (by rw [hx]; decide)] at f8
  obtain ⟨a8, e8, _, w8⟩ := DataW.trod_int Try.underlying3 f8
  simp only [yaf, and_true] at e8
  obtain rfl := e8
  have f9 : DataW.trod enc Try.prog w base spare held n 61 [c18, c19, c20, c21] = xs[9]? := by
   have ce : Try.prog.cellsOf 61 = 4 := by kernel_rfl
   have this : DataW.trod enc Try.prog w base spare held n 61 (((_ : List Go.Value).drop 18).take (Try.prog.cellsOf 61)) = xs[9]? := hf 9 _ rfl
   rw [ce] at this; exact this
  rw [yab (by rw [hx]; decide)] at f9
  obtain ⟨a9, e9, w9⟩ := open_Rect f9
  simp only [Rect.vals, yaf, and_true] at e9
  obtain ⟨rfl, rfl, rfl, rfl⟩ := e9
  exact ⟨⟨a0, a1, a2, a3, a4, a5, a6, a7, a8, a9⟩, rfl, ⟨w0, w1, w2, w3, w4, w5, w6, w7, w8, w9⟩⟩
theorem Command.len (x : Command) : (Command.vals x).length = 22 := rfl
theorem Command.one (x : Command) : ∀ v ∈ Command.vals x, v.oneCell' = true := by simp [Command.vals, Go.Value.oneCell']
theorem Command.encv (x : Command) : Command.cod.enc x = (Command.vals x).map Lf.val := rfl
def Hand.vals (x : Hand) : List Go.Value := [.int .i64 x.Cell, .int .i64 x.To]
def Hand.wf (x : Hand) : Prop := (Lit.int .i64 x.Cell).wf = true ∧ (Lit.int .i64 x.To).wf = true
theorem open_Hand {H : Type} {enc : TypeId × Go.Value → H} {w : World} {base : Nat} {spare : Nat → Bool} {held : Bool} {fuel : Nat} {cs : List Go.Value} {x : DataW H × List MemPlace} (h : DataW.trod enc Try.prog w base spare held fuel 156 cs = some x) : ∃ a : Hand, cs = Hand.vals a ∧ Hand.wf a := by
 obtain ⟨xs, n, rfl, rfl, hl, hx, hf⟩ := DataW.trod_struct Try.underlying156 h
 have hl' : cs.length = 2 := hl.trans (by kernel_rfl)
 match cs, hl' with
 | [c0, c1], _ =>
  have f0 : DataW.trod enc Try.prog w base spare held n 3 [c0] = xs[0]? := by
   have ce : Try.prog.cellsOf 3 = 1 := by kernel_rfl
   have this : DataW.trod enc Try.prog w base spare held n 3 (((_ : List Go.Value).drop 0).take (Try.prog.cellsOf 3)) = xs[0]? := hf 0 _ rfl
   rw [ce] at this; exact this
  rw [yab (by rw [hx]; decide)] at f0
  obtain ⟨a0, e0, _, w0⟩ := DataW.trod_int Try.underlying3 f0
  simp only [yaf, and_true] at e0
  obtain rfl := e0
  have f1 : DataW.trod enc Try.prog w base spare held n 3 [c1] = xs[1]? := by
   have ce : Try.prog.cellsOf 3 = 1 := by kernel_rfl
   have this : DataW.trod enc Try.prog w base spare held n 3 (((_ : List Go.Value).drop 1).take (Try.prog.cellsOf 3)) = xs[1]? := hf 1 _ rfl
   rw [ce] at this; exact this
  rw [yab (by rw [hx]; decide)] at f1
  obtain ⟨a1, e1, _, w1⟩ := DataW.trod_int Try.underlying3 f1
  simp only [yaf, and_true] at e1
  obtain rfl := e1
  exact ⟨⟨a0, a1⟩, rfl, ⟨w0, w1⟩⟩
theorem Hand.len (x : Hand) : (Hand.vals x).length = 2 := rfl
theorem Hand.one (x : Hand) : ∀ v ∈ Hand.vals x, v.oneCell' = true := by simp [Hand.vals, Go.Value.oneCell']
theorem Hand.encv (x : Hand) : Hand.cod.enc x = (Hand.vals x).map Lf.val := rfl
def Note.wf (x : Note) : Prop := (Lit.int .i64 x.From).wf = true ∧ (Lit.int .i64 x.Beat).wf = true ∧ ((∀ a ∈ x.Moved, Thing.wf a) ∧ x.Moved.length ≤ maxLen) ∧ ((∀ a ∈ x.Hands, Hand.wf a) ∧ x.Hands.length ≤ maxLen) ∧ ((∀ a ∈ x.Given, Thing.wf a) ∧ x.Given.length ≤ maxLen) ∧ ((∀ a ∈ x.Watch, Command.wf a) ∧ x.Watch.length ≤ maxLen)
theorem openN_Note {H : Type} {enc : TypeId × Go.Value → H} {w : World} {fuel : Nat} {cs : List Go.Value} {x : DataW H × List MemPlace} (h : DataW.trod enc Try.prog w 0 (fun _ => true) true fuel 71 cs = some x) : ∃ a : Note, RelL w cs (Note.cells a) ∧ Note.wf a := by
 obtain ⟨xs, n, rfl, rfl, hl, hx, hf⟩ := DataW.trod_struct Try.underlying71 h
 have hl' : cs.length = 6 := hl.trans (by kernel_rfl)
 match cs, hl' with
 | [c0, c1, c2, c3, c4, c5], _ =>
  have f0 : DataW.trod enc Try.prog w 0 (fun _ => true) true n 3 [c0] = xs[0]? := by
   have ce : Try.prog.cellsOf 3 = 1 := by kernel_rfl
   have this : DataW.trod enc Try.prog w 0 (fun _ => true) true n 3 (((_ : List Go.Value).drop 0).take (Try.prog.cellsOf 3)) = xs[0]? := hf 0 _ rfl
   rw [ce] at this; exact this
  rw [yab (by rw [hx]; decide)] at f0
  obtain ⟨a0, e0, _, w0⟩ := DataW.trod_int Try.underlying3 f0
  simp only [yaf, and_true] at e0
  obtain rfl := e0
  have f1 : DataW.trod enc Try.prog w 0 (fun _ => true) true n 3 [c1] = xs[1]? := by
   have ce : Try.prog.cellsOf 3 = 1 := by kernel_rfl
   have this : DataW.trod enc Try.prog w 0 (fun _ => true) true n 3 (((_ : List Go.Value).drop 1).take (Try.prog.cellsOf 3)) = xs[1]? := hf 1 _ rfl
   rw [ce] at this; exact this
  rw [yab (by rw [hx]; decide)] at f1
  obtain ⟨a1, e1, _, w1⟩ := DataW.trod_int Try.underlying3 f1
  simp only [yaf, and_true] at e1
  obtain rfl := e1
  have f2 : DataW.trod enc Try.prog w 0 (fun _ => true) true n 34 [c2] = xs[2]? := by
   have ce : Try.prog.cellsOf 34 = 1 := by kernel_rfl
   have this : DataW.trod enc Try.prog w 0 (fun _ => true) true n 34 (((_ : List Go.Value).drop 2).take (Try.prog.cellsOf 34)) = xs[2]? := hf 2 _ rfl
   rw [ce] at this; exact this
  rw [yab (by rw [hx]; decide)] at f2
  obtain ⟨a2, l2, w2⟩ := zgc (c := Thing.cod) (vals := Thing.vals) (wf := Thing.wf) Try.underlying34 (by kernel_rfl) (by decide) (fun _ _ _ h => open_Thing h) Thing.len Thing.encv Thing.one f2
  have f3 : DataW.trod enc Try.prog w 0 (fun _ => true) true n 68 [c3] = xs[3]? := by
   have ce : Try.prog.cellsOf 68 = 1 := by kernel_rfl
   have this : DataW.trod enc Try.prog w 0 (fun _ => true) true n 68 (((_ : List Go.Value).drop 3).take (Try.prog.cellsOf 68)) = xs[3]? := hf 3 _ rfl
   rw [ce] at this; exact this
  rw [yab (by rw [hx]; decide)] at f3
  obtain ⟨a3, l3, w3⟩ := zgc (c := Hand.cod) (vals := Hand.vals) (wf := Hand.wf) Try.underlying68 (by kernel_rfl) (by decide) (fun _ _ _ h => open_Hand h) Hand.len Hand.encv Hand.one f3
  have f4 : DataW.trod enc Try.prog w 0 (fun _ => true) true n 34 [c4] = xs[4]? := by
   have ce : Try.prog.cellsOf 34 = 1 := by kernel_rfl
   have this : DataW.trod enc Try.prog w 0 (fun _ => true) true n 34 (((_ : List Go.Value).drop 4).take (Try.prog.cellsOf 34)) = xs[4]? := hf 4 _ rfl
   rw [ce] at this; exact this
  rw [yab (by rw [hx]; decide)] at f4
  obtain ⟨a4, l4, w4⟩ := zgc (c := Thing.cod) (vals := Thing.vals) (wf := Thing.wf) Try.underlying34 (by kernel_rfl) (by decide) (fun _ _ _ h => open_Thing h) Thing.len Thing.encv Thing.one f4
  have f5 : DataW.trod enc Try.prog w 0 (fun _ => true) true n 69 [c5] = xs[5]? := by
   have ce : Try.prog.cellsOf 69 = 1 := by kernel_rfl
   have this : DataW.trod enc Try.prog w 0 (fun _ => true) true n 69 (((_ : List Go.Value).drop 5).take (Try.prog.cellsOf 69)) = xs[5]? := hf 5 _ rfl
   rw [ce] at this; exact this
  rw [yab (by rw [hx]; decide)] at f5
  obtain ⟨a5, l5, w5⟩ := zgc (c := Command.cod) (vals := Command.vals) (wf := Command.wf) Try.underlying69 (by kernel_rfl) (by decide) (fun _ _ _ h => zeb h) Command.len Command.encv Command.one f5
  exact ⟨⟨a0, a1, a2, a3, a4, a5⟩, (RelL.cons (.val _ rfl) (RelL.cons (.val _ rfl) (RelL.cons l2 (RelL.cons l3 (RelL.cons l4 (RelL.cons l5 RelL.nil)))))), ⟨w0, w1, w2, w3, w4, w5⟩⟩
theorem RelL.append {W : World} : ∀ {a b : List Go.Value} {x y : List Lf}, RelL W a x → RelL W b y → RelL W (a ++ b) (x ++ y)
 | [], b, [], y, _, h => h
 | [], _, _ :: _, _, h, _ => by cases h.1
 | _ :: _, _, [], _, h, _ => by cases h.1
 | c :: a, b, l :: x, y, h, hb => .cons (by simpa using h.2 0 (by simp)) (RelL.append ⟨by simpa using h.1, fun j hj => by simpa using h.2 (j + 1) (by simpa using hj)⟩ hb)
theorem RelL.at {W : World} {cs : List Go.Value} {x y : List Lf} (off sz nx : Nat) (hn : off + sz = nx) (h : RelL W ((cs.drop off).take sz) x) (hr : RelL W (cs.drop nx) y) : RelL W (cs.drop off) (x ++ y) := by
 have := RelL.append h hr
 rw [← hn, ← List.drop_drop, List.take_append_drop] at this
 exact this
theorem RelL.vals0 {W : World} (vs : List Go.Value) (h : ∀ v ∈ vs, v.oneCell' = true) : RelL W vs (vs.map Lf.val) := by
 have := RelL.vals vs h (RelL.nil (W := W))
 rwa [yci, yci] at this
theorem RelL.end_ {W : World} {cs : List Go.Value} {n : Nat} (h : cs.length = n) : RelL W (cs.drop n) [] := by
 rw [ybc (by omega)]; exact RelL.nil
def Packet.wf (x : Packet) : Prop := (Lit.int .i64 x.From).wf = true ∧ (Lit.int .i64 x.To).wf = true ∧ (Lit.int .i64 x.Kind).wf = true ∧ (Lit.int .i64 x.Seq).wf = true ∧ Command.wf x.C ∧ (Lit.int .i64 x.E).wf = true ∧ (Lit.int .i64 x.ID).wf = true ∧ Note.wf x.N ∧ Frame.wf x.F ∧ (Lit.int .i64 x.Session).wf = true ∧ (Lit.int .i64 x.Beat).wf = true
theorem openN_Packet {H : Type} {enc : TypeId × Go.Value → H} {w : World} {fuel : Nat} {cs : List Go.Value} {x : DataW H × List MemPlace} (h : DataW.trod enc Try.prog w 0 (fun _ => true) true fuel 73 cs = some x) : ∃ a : Packet, RelL w cs (Packet.cells a) ∧ Packet.wf a := by
 obtain ⟨xs, n, rfl, rfl, hl, hx, hf⟩ := DataW.trod_struct Try.underlying73 h
 have hl' : cs.length = 42 := hl.trans (by kernel_rfl)
 have f0 : DataW.trod enc Try.prog w 0 (fun _ => true) true n 3 ((cs.drop 0).take 1) = xs[0]? := by
  have ce : Try.prog.cellsOf 3 = 1 := by kernel_rfl
  have this : DataW.trod enc Try.prog w 0 (fun _ => true) true n 3 ((cs.drop 0).take (Try.prog.cellsOf 3)) = xs[0]? := hf 0 _ rfl
  rw [ce] at this; exact this
 rw [yab (by rw [hx]; decide)] at f0
 obtain ⟨a0, e0, _, w0⟩ := DataW.trod_int Try.underlying3 f0
 have r0 : RelL w ((cs.drop 0).take 1) [li .i64 a0] := by rw [e0]; exact RelL.cons (.val _ rfl) RelL.nil
 have f1 : DataW.trod enc Try.prog w 0 (fun _ => true) true n 3 ((cs.drop 1).take 1) = xs[1]? := by
  have ce : Try.prog.cellsOf 3 = 1 := by kernel_rfl
  have this : DataW.trod enc Try.prog w 0 (fun _ => true) true n 3 ((cs.drop 1).take (Try.prog.cellsOf 3)) = xs[1]? := hf 1 _ rfl
  rw [ce] at this; exact this
 rw [yab (by rw [hx]; decide)] at f1
 obtain ⟨a1, e1, _, w1⟩ := DataW.trod_int Try.underlying3 f1
 have r1 : RelL w ((cs.drop 1).take 1) [li .i64 a1] := by rw [e1]; exact RelL.cons (.val _ rfl) RelL.nil
 have f2 : DataW.trod enc Try.prog w 0 (fun _ => true) true n 3 ((cs.drop 2).take 1) = xs[2]? := by
  have ce : Try.prog.cellsOf 3 = 1 := by kernel_rfl
  have this : DataW.trod enc Try.prog w 0 (fun _ => true) true n 3 ((cs.drop 2).take (Try.prog.cellsOf 3)) = xs[2]? := hf 2 _ rfl
  rw [ce] at this; exact this
 rw [yab (by rw [hx]; decide)] at f2
 obtain ⟨a2, e2, _, w2⟩ := DataW.trod_int Try.underlying3 f2
 have r2 : RelL w ((cs.drop 2).take 1) [li .i64 a2] := by rw [e2]; exact RelL.cons (.val _ rfl) RelL.nil
 have f3 : DataW.trod enc Try.prog w 0 (fun _ => true) true n 3 ((cs.drop 3).take 1) = xs[3]? := by
  have ce : Try.prog.cellsOf 3 = 1 := by kernel_rfl
  have this : DataW.trod enc Try.prog w 0 (fun _ => true) true n 3 ((cs.drop 3).take (Try.prog.cellsOf 3)) = xs[3]? := hf 3 _ rfl
  rw [ce] at this; exact this
 rw [yab (by rw [hx]; decide)] at f3
 obtain ⟨a3, e3, _, w3⟩ := DataW.trod_int Try.underlying3 f3
 have r3 : RelL w ((cs.drop 3).take 1) [li .i64 a3] := by rw [e3]; exact RelL.cons (.val _ rfl) RelL.nil
 have f4 : DataW.trod enc Try.prog w 0 (fun _ => true) true n 63 ((cs.drop 4).take 22) = xs[4]? := by
  have ce : Try.prog.cellsOf 63 = 22 := by kernel_rfl
  have this : DataW.trod enc Try.prog w 0 (fun _ => true) true n 63 ((cs.drop 4).take (Try.prog.cellsOf 63)) = xs[4]? := hf 4 _ rfl
  rw [ce] at this; exact this
 rw [yab (by rw [hx]; decide)] at f4
 obtain ⟨a4, e4, w4⟩ := zeb f4
 have r4 : RelL w ((cs.drop 4).take 22) ((Command.vals a4).map Lf.val) := by rw [e4]; exact RelL.vals0 _ (Command.one _)
 have f5 : DataW.trod enc Try.prog w 0 (fun _ => true) true n 67 ((cs.drop 26).take 1) = xs[5]? := by
  have ce : Try.prog.cellsOf 67 = 1 := by kernel_rfl
  have this : DataW.trod enc Try.prog w 0 (fun _ => true) true n 67 ((cs.drop 26).take (Try.prog.cellsOf 67)) = xs[5]? := hf 5 _ rfl
  rw [ce] at this; exact this
 rw [yab (by rw [hx]; decide)] at f5
 obtain ⟨a5, e5, _, w5⟩ := DataW.trod_int Try.underlying67 f5
 have r5 : RelL w ((cs.drop 26).take 1) [li .i64 a5] := by rw [e5]; exact RelL.cons (.val _ rfl) RelL.nil
 have f6 : DataW.trod enc Try.prog w 0 (fun _ => true) true n 3 ((cs.drop 27).take 1) = xs[6]? := by
  have ce : Try.prog.cellsOf 3 = 1 := by kernel_rfl
  have this : DataW.trod enc Try.prog w 0 (fun _ => true) true n 3 ((cs.drop 27).take (Try.prog.cellsOf 3)) = xs[6]? := hf 6 _ rfl
  rw [ce] at this; exact this
 rw [yab (by rw [hx]; decide)] at f6
 obtain ⟨a6, e6, _, w6⟩ := DataW.trod_int Try.underlying3 f6
 have r6 : RelL w ((cs.drop 27).take 1) [li .i64 a6] := by rw [e6]; exact RelL.cons (.val _ rfl) RelL.nil
 have f7 : DataW.trod enc Try.prog w 0 (fun _ => true) true n 71 ((cs.drop 28).take 6) = xs[7]? := by
  have ce : Try.prog.cellsOf 71 = 6 := by kernel_rfl
  have this : DataW.trod enc Try.prog w 0 (fun _ => true) true n 71 ((cs.drop 28).take (Try.prog.cellsOf 71)) = xs[7]? := hf 7 _ rfl
  rw [ce] at this; exact this
 rw [yab (by rw [hx]; decide)] at f7
 obtain ⟨a7, r7, w7⟩ := openN_Note f7
 have f8 : DataW.trod enc Try.prog w 0 (fun _ => true) true n 32 ((cs.drop 34).take 6) = xs[8]? := by
  have ce : Try.prog.cellsOf 32 = 6 := by kernel_rfl
  have this : DataW.trod enc Try.prog w 0 (fun _ => true) true n 32 ((cs.drop 34).take (Try.prog.cellsOf 32)) = xs[8]? := hf 8 _ rfl
  rw [ce] at this; exact this
 rw [yab (by rw [hx]; decide)] at f8
 obtain ⟨a8, r8, w8⟩ := openN_Frame f8
 have f9 : DataW.trod enc Try.prog w 0 (fun _ => true) true n 3 ((cs.drop 40).take 1) = xs[9]? := by
  have ce : Try.prog.cellsOf 3 = 1 := by kernel_rfl
  have this : DataW.trod enc Try.prog w 0 (fun _ => true) true n 3 ((cs.drop 40).take (Try.prog.cellsOf 3)) = xs[9]? := hf 9 _ rfl
  rw [ce] at this; exact this
 rw [yab (by rw [hx]; decide)] at f9
 obtain ⟨a9, e9, _, w9⟩ := DataW.trod_int Try.underlying3 f9
 have r9 : RelL w ((cs.drop 40).take 1) [li .i64 a9] := by rw [e9]; exact RelL.cons (.val _ rfl) RelL.nil
 have f10 : DataW.trod enc Try.prog w 0 (fun _ => true) true n 3 ((cs.drop 41).take 1) = xs[10]? := by
  have ce : Try.prog.cellsOf 3 = 1 := by kernel_rfl
  have this : DataW.trod enc Try.prog w 0 (fun _ => true) true n 3 ((cs.drop 41).take (Try.prog.cellsOf 3)) = xs[10]? := hf 10 _ rfl
  rw [ce] at this; exact this
 rw [yab (by rw [hx]; decide)] at f10
 obtain ⟨a10, e10, _, w10⟩ := DataW.trod_int Try.underlying3 f10
 have r10 : RelL w ((cs.drop 41).take 1) [li .i64 a10] := by rw [e10]; exact RelL.cons (.val _ rfl) RelL.nil
 have all := (RelL.at 0 1 1 rfl r0 (RelL.at 1 1 2 rfl r1 (RelL.at 2 1 3 rfl r2 (RelL.at 3 1 4 rfl r3 (RelL.at 4 22 26 rfl r4 (RelL.at 26 1 27 rfl r5 (RelL.at 27 1 28 rfl r6 (RelL.at 28 6 34 rfl r7 (RelL.at 34 6 40 rfl r8 (RelL.at 40 1 41 rfl r9 (RelL.at 41 1 42 rfl r10 (RelL.end_ hl'))))))))))))
 exact ⟨⟨a0, a1, a2, a3, a4, a5, a6, a7, a8, a9, a10⟩, all, ⟨w0, w1, w2, w3, w4, w5, w6, w7, w8, w9, w10⟩⟩
def Step.wf (x : Step) : Prop := (Lit.int .i64 x.What).wf = true ∧ (Lit.int .i64 x.To).wf = true ∧ Command.wf x.C ∧ Packet.wf x.P
theorem openN_Step {H : Type} {enc : TypeId × Go.Value → H} {w : World} {fuel : Nat} {cs : List Go.Value} {x : DataW H × List MemPlace} (h : DataW.trod enc Try.prog w 0 (fun _ => true) true fuel 84 cs = some x) : ∃ a : Step, RelL w cs (Step.cells a) ∧ Step.wf a := by
 obtain ⟨xs, n, rfl, rfl, hl, hx, hf⟩ := DataW.trod_struct Try.underlying84 h
 have hl' : cs.length = 66 := hl.trans (by kernel_rfl)
 have f0 : DataW.trod enc Try.prog w 0 (fun _ => true) true n 3 ((cs.drop 0).take 1) = xs[0]? := by
  have ce : Try.prog.cellsOf 3 = 1 := by kernel_rfl
  have this : DataW.trod enc Try.prog w 0 (fun _ => true) true n 3 ((cs.drop 0).take (Try.prog.cellsOf 3)) = xs[0]? := hf 0 _ rfl
  rw [ce] at this; exact this
 rw [yab (by rw [hx]; decide)] at f0
 obtain ⟨a0, e0, _, w0⟩ := DataW.trod_int Try.underlying3 f0
 have r0 : RelL w ((cs.drop 0).take 1) [li .i64 a0] := by rw [e0]; exact RelL.cons (.val _ rfl) RelL.nil
 have f1 : DataW.trod enc Try.prog w 0 (fun _ => true) true n 3 ((cs.drop 1).take 1) = xs[1]? := by
  have ce : Try.prog.cellsOf 3 = 1 := by kernel_rfl
  have this : DataW.trod enc Try.prog w 0 (fun _ => true) true n 3 ((cs.drop 1).take (Try.prog.cellsOf 3)) = xs[1]? := hf 1 _ rfl
  rw [ce] at this; exact this
 rw [yab (by rw [hx]; decide)] at f1
 obtain ⟨a1, e1, _, w1⟩ := DataW.trod_int Try.underlying3 f1
 have r1 : RelL w ((cs.drop 1).take 1) [li .i64 a1] := by rw [e1]; exact RelL.cons (.val _ rfl) RelL.nil
 have f2 : DataW.trod enc Try.prog w 0 (fun _ => true) true n 63 ((cs.drop 2).take 22) = xs[2]? := by
  have ce : Try.prog.cellsOf 63 = 22 := by kernel_rfl
  have this : DataW.trod enc Try.prog w 0 (fun _ => true) true n 63 ((cs.drop 2).take (Try.prog.cellsOf 63)) = xs[2]? := hf 2 _ rfl
  rw [ce] at this; exact this
 rw [yab (by rw [hx]; decide)] at f2
 obtain ⟨a2, e2, w2⟩ := zeb f2
 have r2 : RelL w ((cs.drop 2).take 22) ((Command.vals a2).map Lf.val) := by rw [e2]; exact RelL.vals0 _ (Command.one _)
 have f3 : DataW.trod enc Try.prog w 0 (fun _ => true) true n 73 ((cs.drop 24).take 42) = xs[3]? := by
  have ce : Try.prog.cellsOf 73 = 42 := by kernel_rfl
  have this : DataW.trod enc Try.prog w 0 (fun _ => true) true n 73 ((cs.drop 24).take (Try.prog.cellsOf 73)) = xs[3]? := hf 3 _ rfl
  rw [ce] at this; exact this
 rw [yab (by rw [hx]; decide)] at f3
 obtain ⟨a3, r3, w3⟩ := openN_Packet f3
 have all := (RelL.at 0 1 1 rfl r0 (RelL.at 1 1 2 rfl r1 (RelL.at 2 22 24 rfl r2 (RelL.at 24 42 66 rfl r3 (RelL.end_ hl')))))
 exact ⟨⟨a0, a1, a2, a3⟩, all, ⟨w0, w1, w2, w3⟩⟩
end Go.Proofs.Ythdabpmcojmhhaa
