/- No condition. -/
import Derived.Test.YtpjejnefegdoeaaGreatNoteReadsE
import Derived.Test.YtpjejnefegdoeaaGreatChecked
import Derived.Test.YtpjejnefegdoeaaGreatRxVa
namespace Go.Proofs.YtpjejnefegdoeaaGreat
open Go Go.Rx Go.ChangeShapes Go.WideShapes Go.RowKit
set_option maxRecDepth 100000
set_option linter.unusedVariables false
set_option linter.unusedSimpArgs false
set_option linter.unnecessarySimpa false
set_option linter.unnecessarySimpa false
def Point.vals (x : Point) : List Go.Value := [.int .i64 x.X, .int .i64 x.Y]
def Point.wf (x : Point) : Prop := (Lit.int .i64 x.X).wf = true ∧ (Lit.int .i64 x.Y).wf = true
theorem open_Point {H : Type} {enc : TypeId × Go.Value → H} {w : World} {base : Nat} {spare : Nat → Bool} {held : Bool} {fuel : Nat} {cs : List Go.Value} {x : DataW H × List MemPlace} (h : DataW.trod enc Tryz.prog w base spare held fuel 42 cs = some x) : ∃ a : Point, cs = Point.vals a ∧ Point.wf a := by
 obtain ⟨xs, n, rfl, rfl, hl, hx, hf⟩ := DataW.trod_struct Tryz.underlying42 h
 have hl' : cs.length = 2 := hl.trans (by kernel_rfl)
 match cs, hl' with
 | [c0, c1], _ =>
  have f0 : DataW.trod enc Tryz.prog w base spare held n 3 [c0] = xs[0]? := by
   have ce : Tryz.prog.cellsOf 3 = 1 := by kernel_rfl
   have this : DataW.trod enc Tryz.prog w base spare held n 3 (((_ : List Go.Value).drop 0).take (Tryz.prog.cellsOf 3)) = xs[0]? := hf 0 _ rfl
   rw [ce] at this; exact this
  rw [List.getElem?_eq_getElem (by rw [hx]; decide)] at f0
  obtain ⟨a0, e0, _, w0⟩ := DataW.trod_int Tryz.underlying3 f0
  simp only [List.cons.injEq, and_true] at e0
  obtain rfl := e0
  have f1 : DataW.trod enc Tryz.prog w base spare held n 3 [c1] = xs[1]? := by
   have ce : Tryz.prog.cellsOf 3 = 1 := by kernel_rfl
   have this : DataW.trod enc Tryz.prog w base spare held n 3 (((_ : List Go.Value).drop 1).take (Tryz.prog.cellsOf 3)) = xs[1]? := hf 1 _ rfl
   rw [ce] at this; exact this
  rw [List.getElem?_eq_getElem (by rw [hx]; decide)] at f1
  obtain ⟨a1, e1, _, w1⟩ := DataW.trod_int Tryz.underlying3 f1
  simp only [List.cons.injEq, and_true] at e1
  obtain rfl := e1
  exact ⟨⟨a0, a1⟩, rfl, ⟨w0, w1⟩⟩
theorem Point.len (x : Point) : (Point.vals x).length = 2 := rfl
theorem Point.one (x : Point) : ∀ v ∈ Point.vals x, v.oneCell' = true := by simp [Point.vals, Go.Value.oneCell']
theorem Point.encv (x : Point) : Point.cod.enc x = (Point.vals x).map Lf.val := rfl
def Field.vals (x : Field) : List Go.Value := [.int .i64 x.N, .string x.Text]
def Field.wf (x : Field) : Prop := (Lit.int .i64 x.N).wf = true ∧ x.Text.size ≤ maxLen
theorem open_Field {H : Type} {enc : TypeId × Go.Value → H} {w : World} {base : Nat} {spare : Nat → Bool} {held : Bool} {fuel : Nat} {cs : List Go.Value} {x : DataW H × List MemPlace} (h : DataW.trod enc Tryz.prog w base spare held fuel 44 cs = some x) : ∃ a : Field, cs = Field.vals a ∧ Field.wf a := by
 obtain ⟨xs, n, rfl, rfl, hl, hx, hf⟩ := DataW.trod_struct Tryz.underlying44 h
 have hl' : cs.length = 2 := hl.trans (by kernel_rfl)
 match cs, hl' with
 | [c0, c1], _ =>
  have f0 : DataW.trod enc Tryz.prog w base spare held n 2 [c0] = xs[0]? := by
   have ce : Tryz.prog.cellsOf 2 = 1 := by kernel_rfl
   have this : DataW.trod enc Tryz.prog w base spare held n 2 (((_ : List Go.Value).drop 0).take (Tryz.prog.cellsOf 2)) = xs[0]? := hf 0 _ rfl
   rw [ce] at this; exact this
  rw [List.getElem?_eq_getElem (by rw [hx]; decide)] at f0
  obtain ⟨a0, e0, _, w0⟩ := DataW.trod_int Tryz.underlying2 f0
  simp only [List.cons.injEq, and_true] at e0
  obtain rfl := e0
  have f1 : DataW.trod enc Tryz.prog w base spare held n 9 [c1] = xs[1]? := by
   have ce : Tryz.prog.cellsOf 9 = 1 := by kernel_rfl
   have this : DataW.trod enc Tryz.prog w base spare held n 9 (((_ : List Go.Value).drop 1).take (Tryz.prog.cellsOf 9)) = xs[1]? := hf 1 _ rfl
   rw [ce] at this; exact this
  rw [List.getElem?_eq_getElem (by rw [hx]; decide)] at f1
  obtain ⟨a1, e1, _, w1⟩ := DataW.trod_string Tryz.underlying9 f1
  simp only [List.cons.injEq, and_true] at e1
  obtain rfl := e1
  exact ⟨⟨a0, a1⟩, rfl, ⟨w0, w1⟩⟩
theorem Field.len (x : Field) : (Field.vals x).length = 2 := rfl
theorem Field.one (x : Field) : ∀ v ∈ Field.vals x, v.oneCell' = true := by simp [Field.vals, Go.Value.oneCell']
theorem Field.encv (x : Field) : Field.cod.enc x = (Field.vals x).map Lf.val := rfl
def A4_Field.vals (x : (A4 Field)) : List Go.Value := [.int .i64 x.a0.N, .string x.a0.Text, .int .i64 x.a1.N, .string x.a1.Text, .int .i64 x.a2.N, .string x.a2.Text, .int .i64 x.a3.N, .string x.a3.Text]
def A4_Field.wf (x : (A4 Field)) : Prop := Field.wf x.a0 ∧ Field.wf x.a1 ∧ Field.wf x.a2 ∧ Field.wf x.a3
theorem open_A4_Field {H : Type} {enc : TypeId × Go.Value → H} {w : World} {base : Nat} {spare : Nat → Bool} {held : Bool} {fuel : Nat} {cs : List Go.Value} {x : DataW H × List MemPlace} (h : DataW.trod enc Tryz.prog w base spare held fuel 45 cs = some x) : ∃ a : (A4 Field), cs = A4_Field.vals a ∧ A4_Field.wf a := by
 obtain ⟨xs, n, rfl, rfl, hl, hx, hf⟩ := DataW.trod_array Tryz.underlying45 h
 have hl' : cs.length = 8 := hl.trans (by kernel_rfl)
 match cs, hl' with
 | [c0, c1, c2, c3, c4, c5, c6, c7], _ =>
  have ce : Tryz.prog.cellsOf 44 = 2 := by kernel_rfl
  have f0 : DataW.trod enc Tryz.prog w base spare held n 44 [c0, c1] = xs[0]? := by
   have this : DataW.trod enc Tryz.prog w base spare held n 44 (((_ : List Go.Value).drop (0 * Tryz.prog.cellsOf 44)).take (Tryz.prog.cellsOf 44)) = xs[0]? := hf 0 (by decide)
   rw [ce] at this; exact this
  rw [List.getElem?_eq_getElem (by rw [hx]; decide)] at f0
  obtain ⟨a0, e0, w0⟩ := open_Field f0
  simp only [Field.vals, List.cons.injEq, and_true] at e0
  obtain ⟨rfl, rfl⟩ := e0
  have f1 : DataW.trod enc Tryz.prog w base spare held n 44 [c2, c3] = xs[1]? := by
   have this : DataW.trod enc Tryz.prog w base spare held n 44 (((_ : List Go.Value).drop (1 * Tryz.prog.cellsOf 44)).take (Tryz.prog.cellsOf 44)) = xs[1]? := hf 1 (by decide)
   rw [ce] at this; exact this
  rw [List.getElem?_eq_getElem (by rw [hx]; decide)] at f1
  obtain ⟨a1, e1, w1⟩ := open_Field f1
  simp only [Field.vals, List.cons.injEq, and_true] at e1
  obtain ⟨rfl, rfl⟩ := e1
  have f2 : DataW.trod enc Tryz.prog w base spare held n 44 [c4, c5] = xs[2]? := by
   have this : DataW.trod enc Tryz.prog w base spare held n 44 (((_ : List Go.Value).drop (2 * Tryz.prog.cellsOf 44)).take (Tryz.prog.cellsOf 44)) = xs[2]? := hf 2 (by decide)
   rw [ce] at this; exact this
  rw [List.getElem?_eq_getElem (by rw [hx]; decide)] at f2
  obtain ⟨a2, e2, w2⟩ := open_Field f2
  simp only [Field.vals, List.cons.injEq, and_true] at e2
  obtain ⟨rfl, rfl⟩ := e2
  have f3 : DataW.trod enc Tryz.prog w base spare held n 44 [c6, c7] = xs[3]? := by
   have this : DataW.trod enc Tryz.prog w base spare held n 44 (((_ : List Go.Value).drop (3 * Tryz.prog.cellsOf 44)).take (Tryz.prog.cellsOf 44)) = xs[3]? := hf 3 (by decide)
   rw [ce] at this; exact this
  rw [List.getElem?_eq_getElem (by rw [hx]; decide)] at f3
  obtain ⟨a3, e3, w3⟩ := open_Field f3
  simp only [Field.vals, List.cons.injEq, and_true] at e3
  obtain ⟨rfl, rfl⟩ := e3
  exact ⟨⟨a0, a1, a2, a3⟩, rfl, ⟨w0, w1, w2, w3⟩⟩
theorem A4_Field.len (x : (A4 Field)) : (A4_Field.vals x).length = 8 := rfl
theorem A4_Field.one (x : (A4 Field)) : ∀ v ∈ A4_Field.vals x, v.oneCell' = true := by simp [A4_Field.vals, Go.Value.oneCell']
def Thing.vals (x : Thing) : List Go.Value := [.int .i64 x.ID, .int .i64 x.At.X, .int .i64 x.At.Y, .int .i64 x.F.a0.N, .string x.F.a0.Text, .int .i64 x.F.a1.N, .string x.F.a1.Text, .int .i64 x.F.a2.N, .string x.F.a2.Text, .int .i64 x.F.a3.N, .string x.F.a3.Text]
def Thing.wf (x : Thing) : Prop := (Lit.int .i64 x.ID).wf = true ∧ Point.wf x.At ∧ A4_Field.wf x.F
theorem open_Thing {H : Type} {enc : TypeId × Go.Value → H} {w : World} {base : Nat} {spare : Nat → Bool} {held : Bool} {fuel : Nat} {cs : List Go.Value} {x : DataW H × List MemPlace} (h : DataW.trod enc Tryz.prog w base spare held fuel 47 cs = some x) : ∃ a : Thing, cs = Thing.vals a ∧ Thing.wf a := by
 obtain ⟨xs, n, rfl, rfl, hl, hx, hf⟩ := DataW.trod_struct Tryz.underlying47 h
 have hl' : cs.length = 11 := hl.trans (by kernel_rfl)
 match cs, hl' with
 | [c0, c1, c2, c3, c4, c5, c6, c7, c8, c9, c10], _ =>
  have f0 : DataW.trod enc Tryz.prog w base spare held n 3 [c0] = xs[0]? := by
   have ce : Tryz.prog.cellsOf 3 = 1 := by kernel_rfl
   have this : DataW.trod enc Tryz.prog w base spare held n 3 (((_ : List Go.Value).drop 0).take (Tryz.prog.cellsOf 3)) = xs[0]? := hf 0 _ rfl
   rw [ce] at this; exact this
  rw [List.getElem?_eq_getElem (by rw [hx]; decide)] at f0
  obtain ⟨a0, e0, _, w0⟩ := DataW.trod_int Tryz.underlying3 f0
  simp only [List.cons.injEq, and_true] at e0
  obtain rfl := e0
  have f1 : DataW.trod enc Tryz.prog w base spare held n 42 [c1, c2] = xs[1]? := by
   have ce : Tryz.prog.cellsOf 42 = 2 := by kernel_rfl
   have this : DataW.trod enc Tryz.prog w base spare held n 42 (((_ : List Go.Value).drop 1).take (Tryz.prog.cellsOf 42)) = xs[1]? := hf 1 _ rfl
   rw [ce] at this; exact this
  rw [List.getElem?_eq_getElem (by rw [hx]; decide)] at f1
  obtain ⟨a1, e1, w1⟩ := open_Point f1
  simp only [Point.vals, List.cons.injEq, and_true] at e1
  obtain ⟨rfl, rfl⟩ := e1
  have f2 : DataW.trod enc Tryz.prog w base spare held n 45 [c3, c4, c5, c6, c7, c8, c9, c10] = xs[2]? := by
   have ce : Tryz.prog.cellsOf 45 = 8 := by kernel_rfl
   have this : DataW.trod enc Tryz.prog w base spare held n 45 (((_ : List Go.Value).drop 3).take (Tryz.prog.cellsOf 45)) = xs[2]? := hf 2 _ rfl
   rw [ce] at this; exact this
  rw [List.getElem?_eq_getElem (by rw [hx]; decide)] at f2
  obtain ⟨a2, e2, w2⟩ := open_A4_Field f2
  simp only [A4_Field.vals, List.cons.injEq, and_true] at e2
  obtain ⟨rfl, rfl, rfl, rfl, rfl, rfl, rfl, rfl⟩ := e2
  exact ⟨⟨a0, a1, a2⟩, rfl, ⟨w0, w1, w2⟩⟩
theorem Thing.len (x : Thing) : (Thing.vals x).length = 11 := rfl
theorem Thing.one (x : Thing) : ∀ v ∈ Thing.vals x, v.oneCell' = true := by simp [Thing.vals, Go.Value.oneCell']
theorem Thing.encv (x : Thing) : Thing.cod.enc x = (Thing.vals x).map Lf.val := rfl
def Hand.vals (x : Hand) : List Go.Value := [.int .i64 x.Cell, .int .i64 x.To]
def Hand.wf (x : Hand) : Prop := (Lit.int .i64 x.Cell).wf = true ∧ (Lit.int .i64 x.To).wf = true
theorem open_Hand {H : Type} {enc : TypeId × Go.Value → H} {w : World} {base : Nat} {spare : Nat → Bool} {held : Bool} {fuel : Nat} {cs : List Go.Value} {x : DataW H × List MemPlace} (h : DataW.trod enc Tryz.prog w base spare held fuel 40 cs = some x) : ∃ a : Hand, cs = Hand.vals a ∧ Hand.wf a := by
 obtain ⟨xs, n, rfl, rfl, hl, hx, hf⟩ := DataW.trod_struct Tryz.underlying40 h
 have hl' : cs.length = 2 := hl.trans (by kernel_rfl)
 match cs, hl' with
 | [c0, c1], _ =>
  have f0 : DataW.trod enc Tryz.prog w base spare held n 3 [c0] = xs[0]? := by
   have ce : Tryz.prog.cellsOf 3 = 1 := by kernel_rfl
   have this : DataW.trod enc Tryz.prog w base spare held n 3 (((_ : List Go.Value).drop 0).take (Tryz.prog.cellsOf 3)) = xs[0]? := hf 0 _ rfl
   rw [ce] at this; exact this
  rw [List.getElem?_eq_getElem (by rw [hx]; decide)] at f0
  obtain ⟨a0, e0, _, w0⟩ := DataW.trod_int Tryz.underlying3 f0
  simp only [List.cons.injEq, and_true] at e0
  obtain rfl := e0
  have f1 : DataW.trod enc Tryz.prog w base spare held n 3 [c1] = xs[1]? := by
   have ce : Tryz.prog.cellsOf 3 = 1 := by kernel_rfl
   have this : DataW.trod enc Tryz.prog w base spare held n 3 (((_ : List Go.Value).drop 1).take (Tryz.prog.cellsOf 3)) = xs[1]? := hf 1 _ rfl
   rw [ce] at this; exact this
  rw [List.getElem?_eq_getElem (by rw [hx]; decide)] at f1
  obtain ⟨a1, e1, _, w1⟩ := DataW.trod_int Tryz.underlying3 f1
  simp only [List.cons.injEq, and_true] at e1
  obtain rfl := e1
  exact ⟨⟨a0, a1⟩, rfl, ⟨w0, w1⟩⟩
theorem Hand.len (x : Hand) : (Hand.vals x).length = 2 := rfl
theorem Hand.one (x : Hand) : ∀ v ∈ Hand.vals x, v.oneCell' = true := by simp [Hand.vals, Go.Value.oneCell']
theorem Hand.encv (x : Hand) : Hand.cod.enc x = (Hand.vals x).map Lf.val := rfl
def Rect.vals (x : Rect) : List Go.Value := [.int .i64 x.X0, .int .i64 x.Y0, .int .i64 x.X1, .int .i64 x.Y1]
def Rect.wf (x : Rect) : Prop := (Lit.int .i64 x.X0).wf = true ∧ (Lit.int .i64 x.Y0).wf = true ∧ (Lit.int .i64 x.X1).wf = true ∧ (Lit.int .i64 x.Y1).wf = true
theorem open_Rect {H : Type} {enc : TypeId × Go.Value → H} {w : World} {base : Nat} {spare : Nat → Bool} {held : Bool} {fuel : Nat} {cs : List Go.Value} {x : DataW H × List MemPlace} (h : DataW.trod enc Tryz.prog w base spare held fuel 54 cs = some x) : ∃ a : Rect, cs = Rect.vals a ∧ Rect.wf a := by
 obtain ⟨xs, n, rfl, rfl, hl, hx, hf⟩ := DataW.trod_struct Tryz.underlying54 h
 have hl' : cs.length = 4 := hl.trans (by kernel_rfl)
 match cs, hl' with
 | [c0, c1, c2, c3], _ =>
  have f0 : DataW.trod enc Tryz.prog w base spare held n 3 [c0] = xs[0]? := by
   have ce : Tryz.prog.cellsOf 3 = 1 := by kernel_rfl
   have this : DataW.trod enc Tryz.prog w base spare held n 3 (((_ : List Go.Value).drop 0).take (Tryz.prog.cellsOf 3)) = xs[0]? := hf 0 _ rfl
   rw [ce] at this; exact this
  rw [List.getElem?_eq_getElem (by rw [hx]; decide)] at f0
  obtain ⟨a0, e0, _, w0⟩ := DataW.trod_int Tryz.underlying3 f0
  simp only [List.cons.injEq, and_true] at e0
  obtain rfl := e0
  have f1 : DataW.trod enc Tryz.prog w base spare held n 3 [c1] = xs[1]? := by
   have ce : Tryz.prog.cellsOf 3 = 1 := by kernel_rfl
   have this : DataW.trod enc Tryz.prog w base spare held n 3 (((_ : List Go.Value).drop 1).take (Tryz.prog.cellsOf 3)) = xs[1]? := hf 1 _ rfl
   rw [ce] at this; exact this
  rw [List.getElem?_eq_getElem (by rw [hx]; decide)] at f1
  obtain ⟨a1, e1, _, w1⟩ := DataW.trod_int Tryz.underlying3 f1
  simp only [List.cons.injEq, and_true] at e1
  obtain rfl := e1
  have f2 : DataW.trod enc Tryz.prog w base spare held n 3 [c2] = xs[2]? := by
   have ce : Tryz.prog.cellsOf 3 = 1 := by kernel_rfl
   have this : DataW.trod enc Tryz.prog w base spare held n 3 (((_ : List Go.Value).drop 2).take (Tryz.prog.cellsOf 3)) = xs[2]? := hf 2 _ rfl
   rw [ce] at this; exact this
  rw [List.getElem?_eq_getElem (by rw [hx]; decide)] at f2
  obtain ⟨a2, e2, _, w2⟩ := DataW.trod_int Tryz.underlying3 f2
  simp only [List.cons.injEq, and_true] at e2
  obtain rfl := e2
  have f3 : DataW.trod enc Tryz.prog w base spare held n 3 [c3] = xs[3]? := by
   have ce : Tryz.prog.cellsOf 3 = 1 := by kernel_rfl
   have this : DataW.trod enc Tryz.prog w base spare held n 3 (((_ : List Go.Value).drop 3).take (Tryz.prog.cellsOf 3)) = xs[3]? := hf 3 _ rfl
   rw [ce] at this; exact this
  rw [List.getElem?_eq_getElem (by rw [hx]; decide)] at f3
  obtain ⟨a3, e3, _, w3⟩ := DataW.trod_int Tryz.underlying3 f3
  simp only [List.cons.injEq, and_true] at e3
  obtain rfl := e3
  exact ⟨⟨a0, a1, a2, a3⟩, rfl, ⟨w0, w1, w2, w3⟩⟩
theorem Rect.len (x : Rect) : (Rect.vals x).length = 4 := rfl
theorem Rect.one (x : Rect) : ∀ v ∈ Rect.vals x, v.oneCell' = true := by simp [Rect.vals, Go.Value.oneCell']
theorem Rect.encv (x : Rect) : Rect.cod.enc x = (Rect.vals x).map Lf.val := rfl
def Command.vals (x : Command) : List Go.Value := [.int .i64 x.Kind, .int .i64 x.ID, .int .i64 x.Which, .int .i64 x.To, .int .i64 x.At.X, .int .i64 x.At.Y, .int .i64 x.F.a0.N, .string x.F.a0.Text, .int .i64 x.F.a1.N, .string x.F.a1.Text, .int .i64 x.F.a2.N, .string x.F.a2.Text, .int .i64 x.F.a3.N, .string x.F.a3.Text, .int .i64 x.Value.N, .string x.Value.Text, .int .i64 x.Client, .int .i64 x.Session, .int .i64 x.Rect.X0, .int .i64 x.Rect.Y0, .int .i64 x.Rect.X1, .int .i64 x.Rect.Y1]
def Command.wf (x : Command) : Prop := (Lit.int .i64 x.Kind).wf = true ∧ (Lit.int .i64 x.ID).wf = true ∧ (Lit.int .i64 x.Which).wf = true ∧ (Lit.int .i64 x.To).wf = true ∧ Point.wf x.At ∧ A4_Field.wf x.F ∧ Field.wf x.Value ∧ (Lit.int .i64 x.Client).wf = true ∧ (Lit.int .i64 x.Session).wf = true ∧ Rect.wf x.Rect
theorem open_Command {H : Type} {enc : TypeId × Go.Value → H} {w : World} {base : Nat} {spare : Nat → Bool} {held : Bool} {fuel : Nat} {cs : List Go.Value} {x : DataW H × List MemPlace} (h : DataW.trod enc Tryz.prog w base spare held fuel 56 cs = some x) : ∃ a : Command, cs = Command.vals a ∧ Command.wf a := by
 obtain ⟨xs, n, rfl, rfl, hl, hx, hf⟩ := DataW.trod_struct Tryz.underlying56 h
 have hl' : cs.length = 22 := hl.trans (by kernel_rfl)
 match cs, hl' with
 | [c0, c1, c2, c3, c4, c5, c6, c7, c8, c9, c10, c11, c12, c13, c14, c15, c16, c17, c18, c19, c20, c21], _ =>
  have f0 : DataW.trod enc Tryz.prog w base spare held n 3 [c0] = xs[0]? := by
   have ce : Tryz.prog.cellsOf 3 = 1 := by kernel_rfl
   have this : DataW.trod enc Tryz.prog w base spare held n 3 (((_ : List Go.Value).drop 0).take (Tryz.prog.cellsOf 3)) = xs[0]? := hf 0 _ rfl
   rw [ce] at this; exact this
  rw [List.getElem?_eq_getElem (by rw [hx]; decide)] at f0
  obtain ⟨a0, e0, _, w0⟩ := DataW.trod_int Tryz.underlying3 f0
  simp only [List.cons.injEq, and_true] at e0
  obtain rfl := e0
  have f1 : DataW.trod enc Tryz.prog w base spare held n 3 [c1] = xs[1]? := by
   have ce : Tryz.prog.cellsOf 3 = 1 := by kernel_rfl
   have this : DataW.trod enc Tryz.prog w base spare held n 3 (((_ : List Go.Value).drop 1).take (Tryz.prog.cellsOf 3)) = xs[1]? := hf 1 _ rfl
   rw [ce] at this; exact this
  rw [List.getElem?_eq_getElem (by rw [hx]; decide)] at f1
  obtain ⟨a1, e1, _, w1⟩ := DataW.trod_int Tryz.underlying3 f1
  simp only [List.cons.injEq, and_true] at e1
  obtain rfl := e1
  have f2 : DataW.trod enc Tryz.prog w base spare held n 3 [c2] = xs[2]? := by
   have ce : Tryz.prog.cellsOf 3 = 1 := by kernel_rfl
   have this : DataW.trod enc Tryz.prog w base spare held n 3 (((_ : List Go.Value).drop 2).take (Tryz.prog.cellsOf 3)) = xs[2]? := hf 2 _ rfl
   rw [ce] at this; exact this
  rw [List.getElem?_eq_getElem (by rw [hx]; decide)] at f2
  obtain ⟨a2, e2, _, w2⟩ := DataW.trod_int Tryz.underlying3 f2
  simp only [List.cons.injEq, and_true] at e2
  obtain rfl := e2
  have f3 : DataW.trod enc Tryz.prog w base spare held n 3 [c3] = xs[3]? := by
   have ce : Tryz.prog.cellsOf 3 = 1 := by kernel_rfl
   have this : DataW.trod enc Tryz.prog w base spare held n 3 (((_ : List Go.Value).drop 3).take (Tryz.prog.cellsOf 3)) = xs[3]? := hf 3 _ rfl
   rw [ce] at this; exact this
  rw [List.getElem?_eq_getElem (by rw [hx]; decide)] at f3
  obtain ⟨a3, e3, _, w3⟩ := DataW.trod_int Tryz.underlying3 f3
  simp only [List.cons.injEq, and_true] at e3
  obtain rfl := e3
  have f4 : DataW.trod enc Tryz.prog w base spare held n 42 [c4, c5] = xs[4]? := by
   have ce : Tryz.prog.cellsOf 42 = 2 := by kernel_rfl
   have this : DataW.trod enc Tryz.prog w base spare held n 42 (((_ : List Go.Value).drop 4).take (Tryz.prog.cellsOf 42)) = xs[4]? := hf 4 _ rfl
   rw [ce] at this; exact this
  rw [List.getElem?_eq_getElem (by rw [hx]; decide)] at f4
  obtain ⟨a4, e4, w4⟩ := open_Point f4
  simp only [Point.vals, List.cons.injEq, and_true] at e4
  obtain ⟨rfl, rfl⟩ := e4
  have f5 : DataW.trod enc Tryz.prog w base spare held n 45 [c6, c7, c8, c9, c10, c11, c12, c13] = xs[5]? := by
   have ce : Tryz.prog.cellsOf 45 = 8 := by kernel_rfl
   have this : DataW.trod enc Tryz.prog w base spare held n 45 (((_ : List Go.Value).drop 6).take (Tryz.prog.cellsOf 45)) = xs[5]? := hf 5 _ rfl
   rw [ce] at this; exact this
  rw [List.getElem?_eq_getElem (by rw [hx]; decide)] at f5
  obtain ⟨a5, e5, w5⟩ := open_A4_Field f5
  simp only [A4_Field.vals, List.cons.injEq, and_true] at e5
  obtain ⟨rfl, rfl, rfl, rfl, rfl, rfl, rfl, rfl⟩ := e5
  have f6 : DataW.trod enc Tryz.prog w base spare held n 44 [c14, c15] = xs[6]? := by
   have ce : Tryz.prog.cellsOf 44 = 2 := by kernel_rfl
   have this : DataW.trod enc Tryz.prog w base spare held n 44 (((_ : List Go.Value).drop 14).take (Tryz.prog.cellsOf 44)) = xs[6]? := hf 6 _ rfl
   rw [ce] at this; exact this
  rw [List.getElem?_eq_getElem (by rw [hx]; decide)] at f6
  obtain ⟨a6, e6, w6⟩ := open_Field f6
  simp only [Field.vals, List.cons.injEq, and_true] at e6
  obtain ⟨rfl, rfl⟩ := e6
  have f7 : DataW.trod enc Tryz.prog w base spare held n 3 [c16] = xs[7]? := by
   have ce : Tryz.prog.cellsOf 3 = 1 := by kernel_rfl
   have this : DataW.trod enc Tryz.prog w base spare held n 3 (((_ : List Go.Value).drop 16).take (Tryz.prog.cellsOf 3)) = xs[7]? := hf 7 _ rfl
   rw [ce] at this; exact this
  rw [List.getElem?_eq_getElem (by rw [hx]; decide)] at f7
  obtain ⟨a7, e7, _, w7⟩ := DataW.trod_int Tryz.underlying3 f7
  simp only [List.cons.injEq, and_true] at e7
  obtain rfl := e7
  have f8 : DataW.trod enc Tryz.prog w base spare held n 3 [c17] = xs[8]? := by
   have ce : Tryz.prog.cellsOf 3 = 1 := by kernel_rfl
   have this : DataW.trod enc Tryz.prog w base spare held n 3 (((_ : List Go.Value).drop 17).take (Tryz.prog.cellsOf 3)) = xs[8]? := hf 8 _ rfl
   rw [ce] at this; exact this
  rw [List.getElem?_eq_getElem (by rw [hx]; decide)] at f8
  obtain ⟨a8, e8, _, w8⟩ := DataW.trod_int Tryz.underlying3 f8
  simp only [List.cons.injEq, and_true] at e8
  obtain rfl := e8
  have f9 : DataW.trod enc Tryz.prog w base spare held n 54 [c18, c19, c20, c21] = xs[9]? := by
   have ce : Tryz.prog.cellsOf 54 = 4 := by kernel_rfl
   have this : DataW.trod enc Tryz.prog w base spare held n 54 (((_ : List Go.Value).drop 18).take (Tryz.prog.cellsOf 54)) = xs[9]? := hf 9 _ rfl
   rw [ce] at this; exact this
  rw [List.getElem?_eq_getElem (by rw [hx]; decide)] at f9
  obtain ⟨a9, e9, w9⟩ := open_Rect f9
  simp only [Rect.vals, List.cons.injEq, and_true] at e9
  obtain ⟨rfl, rfl, rfl, rfl⟩ := e9
  exact ⟨⟨a0, a1, a2, a3, a4, a5, a6, a7, a8, a9⟩, rfl, ⟨w0, w1, w2, w3, w4, w5, w6, w7, w8, w9⟩⟩
theorem Command.len (x : Command) : (Command.vals x).length = 22 := rfl
theorem Command.one (x : Command) : ∀ v ∈ Command.vals x, v.oneCell' = true := by simp [Command.vals, Go.Value.oneCell']
theorem Command.encv (x : Command) : Command.cod.enc x = (Command.vals x).map Lf.val := rfl
def Note.wf (x : Note) : Prop := (Lit.int .i64 x.From).wf = true ∧ (Lit.int .i64 x.Beat).wf = true ∧ ((∀ a ∈ x.Moved, Thing.wf a) ∧ x.Moved.length ≤ maxLen) ∧ ((∀ a ∈ x.Hands, Hand.wf a) ∧ x.Hands.length ≤ maxLen) ∧ ((∀ a ∈ x.Given, Thing.wf a) ∧ x.Given.length ≤ maxLen) ∧ ((∀ a ∈ x.Watch, Command.wf a) ∧ x.Watch.length ≤ maxLen)
theorem openN_Note {H : Type} {enc : TypeId × Go.Value → H} {w : World} {fuel : Nat} {cs : List Go.Value} {x : DataW H × List MemPlace} (h : DataW.trod enc Tryz.prog w 0 (fun _ => true) true fuel 26 cs = some x) : ∃ a : Note, RelL w cs (Note.cells a) ∧ Note.wf a := by
 obtain ⟨xs, n, rfl, rfl, hl, hx, hf⟩ := DataW.trod_struct Tryz.underlying26 h
 have hl' : cs.length = 6 := hl.trans (by kernel_rfl)
 match cs, hl' with
 | [c0, c1, c2, c3, c4, c5], _ =>
  have f0 : DataW.trod enc Tryz.prog w 0 (fun _ => true) true n 3 [c0] = xs[0]? := by
   have ce : Tryz.prog.cellsOf 3 = 1 := by kernel_rfl
   have this : DataW.trod enc Tryz.prog w 0 (fun _ => true) true n 3 (((_ : List Go.Value).drop 0).take (Tryz.prog.cellsOf 3)) = xs[0]? := hf 0 _ rfl
   rw [ce] at this; exact this
  rw [List.getElem?_eq_getElem (by rw [hx]; decide)] at f0
  obtain ⟨a0, e0, _, w0⟩ := DataW.trod_int Tryz.underlying3 f0
  simp only [List.cons.injEq, and_true] at e0
  obtain rfl := e0
  have f1 : DataW.trod enc Tryz.prog w 0 (fun _ => true) true n 3 [c1] = xs[1]? := by
   have ce : Tryz.prog.cellsOf 3 = 1 := by kernel_rfl
   have this : DataW.trod enc Tryz.prog w 0 (fun _ => true) true n 3 (((_ : List Go.Value).drop 1).take (Tryz.prog.cellsOf 3)) = xs[1]? := hf 1 _ rfl
   rw [ce] at this; exact this
  rw [List.getElem?_eq_getElem (by rw [hx]; decide)] at f1
  obtain ⟨a1, e1, _, w1⟩ := DataW.trod_int Tryz.underlying3 f1
  simp only [List.cons.injEq, and_true] at e1
  obtain rfl := e1
  have f2 : DataW.trod enc Tryz.prog w 0 (fun _ => true) true n 22 [c2] = xs[2]? := by
   have ce : Tryz.prog.cellsOf 22 = 1 := by kernel_rfl
   have this : DataW.trod enc Tryz.prog w 0 (fun _ => true) true n 22 (((_ : List Go.Value).drop 2).take (Tryz.prog.cellsOf 22)) = xs[2]? := hf 2 _ rfl
   rw [ce] at this; exact this
  rw [List.getElem?_eq_getElem (by rw [hx]; decide)] at f2
  obtain ⟨a2, l2, w2⟩ := open_vwc (c := Thing.cod) (vals := Thing.vals) (wf := Thing.wf) Tryz.underlying22 (by kernel_rfl) (by decide) (fun _ _ _ h => open_Thing h) Thing.len Thing.encv Thing.one f2
  have f3 : DataW.trod enc Tryz.prog w 0 (fun _ => true) true n 23 [c3] = xs[3]? := by
   have ce : Tryz.prog.cellsOf 23 = 1 := by kernel_rfl
   have this : DataW.trod enc Tryz.prog w 0 (fun _ => true) true n 23 (((_ : List Go.Value).drop 3).take (Tryz.prog.cellsOf 23)) = xs[3]? := hf 3 _ rfl
   rw [ce] at this; exact this
  rw [List.getElem?_eq_getElem (by rw [hx]; decide)] at f3
  obtain ⟨a3, l3, w3⟩ := open_vwc (c := Hand.cod) (vals := Hand.vals) (wf := Hand.wf) Tryz.underlying23 (by kernel_rfl) (by decide) (fun _ _ _ h => open_Hand h) Hand.len Hand.encv Hand.one f3
  have f4 : DataW.trod enc Tryz.prog w 0 (fun _ => true) true n 22 [c4] = xs[4]? := by
   have ce : Tryz.prog.cellsOf 22 = 1 := by kernel_rfl
   have this : DataW.trod enc Tryz.prog w 0 (fun _ => true) true n 22 (((_ : List Go.Value).drop 4).take (Tryz.prog.cellsOf 22)) = xs[4]? := hf 4 _ rfl
   rw [ce] at this; exact this
  rw [List.getElem?_eq_getElem (by rw [hx]; decide)] at f4
  obtain ⟨a4, l4, w4⟩ := open_vwc (c := Thing.cod) (vals := Thing.vals) (wf := Thing.wf) Tryz.underlying22 (by kernel_rfl) (by decide) (fun _ _ _ h => open_Thing h) Thing.len Thing.encv Thing.one f4
  have f5 : DataW.trod enc Tryz.prog w 0 (fun _ => true) true n 24 [c5] = xs[5]? := by
   have ce : Tryz.prog.cellsOf 24 = 1 := by kernel_rfl
   have this : DataW.trod enc Tryz.prog w 0 (fun _ => true) true n 24 (((_ : List Go.Value).drop 5).take (Tryz.prog.cellsOf 24)) = xs[5]? := hf 5 _ rfl
   rw [ce] at this; exact this
  rw [List.getElem?_eq_getElem (by rw [hx]; decide)] at f5
  obtain ⟨a5, l5, w5⟩ := open_vwc (c := Command.cod) (vals := Command.vals) (wf := Command.wf) Tryz.underlying24 (by kernel_rfl) (by decide) (fun _ _ _ h => open_Command h) Command.len Command.encv Command.one f5
  exact ⟨⟨a0, a1, a2, a3, a4, a5⟩, (RelL.cons (.val _ rfl) (RelL.cons (.val _ rfl) (RelL.cons l2 (RelL.cons l3 (RelL.cons l4 (RelL.cons l5 RelL.nil)))))), ⟨w0, w1, w2, w3, w4, w5⟩⟩
end Go.Proofs.YtpjejnefegdoeaaGreat
