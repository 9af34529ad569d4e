/-
  Structs and rows as arguments. No condition.
-/
import Derived.Test.YtdnfamkokhgdbaaGeomMovesE
import Derived.Test.YtdnfamkokhgdbaaChecked
import Derived.Test.YtdnfamkokhgdbaaRxV
namespace Go.Proofs.Ytdnfamkokhgdbaa
open Go Go.Rx Go.ChangeShapes Go.WideShapes Go.RowKit
set_option maxRecDepth 100000
set_option linter.unusedVariables false
set_option linter.unusedSimpArgs false
set_option linter.unnecessarySimpa false
def Rect.vals (x : Rect) : List Value := [.int .i64 x.X0, .int .i64 x.Y0, .int .i64 x.X1, .int .i64 x.Y1]
def Rect.wf (x : Rect) : Prop := (Lit.int .i64 x.X0).wf = true ∧ (Lit.int .i64 x.Y0).wf = true ∧ (Lit.int .i64 x.X1).wf = true ∧ (Lit.int .i64 x.Y1).wf = true
theorem open_Rect {H : Type} {enc : TypeId × Value → H} {w : World} {base : Nat} {spare : Nat → Bool} {held : Bool} {fuel : Nat} {cs : List Value} {x : DataW H × List MemPlace} (h : DataW.trod enc Try.prog w base spare held fuel 35 cs = some x) : ∃ a : Rect, cs = Rect.vals a ∧ Rect.wf a := by
  obtain ⟨xs, n, rfl, rfl, hl, hx, hf⟩ := DataW.trod_struct Try.underlying35 h
  have hl' : cs.length = 4 := hl.trans (by kernel_rfl)
  match cs, hl' with
  | [c0, c1, c2, c3], _ =>
    have f0 : DataW.trod enc Try.prog w base spare held n 3 [c0] = xs[0]? := by
      have ce : Try.prog.cellsOf 3 = 1 := by kernel_rfl
      have this : DataW.trod enc Try.prog w base spare held n 3 (((_ : List Value).drop 0).take (Try.prog.cellsOf 3)) = xs[0]? := hf 0 _ rfl
      rw [ce] at this; exact this
    rw [List.getElem?_eq_getElem (by rw [hx]; decide)] at f0
    obtain ⟨a0, e0, _, w0⟩ := DataW.trod_int Try.underlying3 f0
    simp only [List.cons.injEq, and_true] at e0
    obtain rfl := e0
    have f1 : DataW.trod enc Try.prog w base spare held n 3 [c1] = xs[1]? := by
      have ce : Try.prog.cellsOf 3 = 1 := by kernel_rfl
      have this : DataW.trod enc Try.prog w base spare held n 3 (((_ : List Value).drop 1).take (Try.prog.cellsOf 3)) = xs[1]? := hf 1 _ rfl
      rw [ce] at this; exact this
    rw [List.getElem?_eq_getElem (by rw [hx]; decide)] at f1
    obtain ⟨a1, e1, _, w1⟩ := DataW.trod_int Try.underlying3 f1
    simp only [List.cons.injEq, and_true] at e1
    obtain rfl := e1
    have f2 : DataW.trod enc Try.prog w base spare held n 3 [c2] = xs[2]? := by
      have ce : Try.prog.cellsOf 3 = 1 := by kernel_rfl
      have this : DataW.trod enc Try.prog w base spare held n 3 (((_ : List Value).drop 2).take (Try.prog.cellsOf 3)) = xs[2]? := hf 2 _ rfl
      rw [ce] at this; exact this
    rw [List.getElem?_eq_getElem (by rw [hx]; decide)] at f2
    obtain ⟨a2, e2, _, w2⟩ := DataW.trod_int Try.underlying3 f2
    simp only [List.cons.injEq, and_true] at e2
    obtain rfl := e2
    have f3 : DataW.trod enc Try.prog w base spare held n 3 [c3] = xs[3]? := by
      have ce : Try.prog.cellsOf 3 = 1 := by kernel_rfl
      have this : DataW.trod enc Try.prog w base spare held n 3 (((_ : List Value).drop 3).take (Try.prog.cellsOf 3)) = xs[3]? := hf 3 _ rfl
      rw [ce] at this; exact this
    rw [List.getElem?_eq_getElem (by rw [hx]; decide)] at f3
    obtain ⟨a3, e3, _, w3⟩ := DataW.trod_int Try.underlying3 f3
    simp only [List.cons.injEq, and_true] at e3
    obtain rfl := e3
    exact ⟨⟨a0, a1, a2, a3⟩, rfl, ⟨w0, w1, w2, w3⟩⟩
theorem Rect.len (x : Rect) : (Rect.vals x).length = 4 := rfl
theorem Rect.one (x : Rect) : ∀ v ∈ Rect.vals x, v.oneCell' = true := by simp [Rect.vals, Value.oneCell']
theorem Rect.encv (x : Rect) : Rect.cod.enc x = (Rect.vals x).map Lf.val := rfl
def Point.vals (x : Point) : List Value := [.int .i64 x.X, .int .i64 x.Y]
def Point.wf (x : Point) : Prop := (Lit.int .i64 x.X).wf = true ∧ (Lit.int .i64 x.Y).wf = true
theorem open_Point {H : Type} {enc : TypeId × Value → H} {w : World} {base : Nat} {spare : Nat → Bool} {held : Bool} {fuel : Nat} {cs : List Value} {x : DataW H × List MemPlace} (h : DataW.trod enc Try.prog w base spare held fuel 37 cs = some x) : ∃ a : Point, cs = Point.vals a ∧ Point.wf a := by
  obtain ⟨xs, n, rfl, rfl, hl, hx, hf⟩ := DataW.trod_struct Try.underlying37 h
  have hl' : cs.length = 2 := hl.trans (by kernel_rfl)
  match cs, hl' with
  | [c0, c1], _ =>
    have f0 : DataW.trod enc Try.prog w base spare held n 3 [c0] = xs[0]? := by
      have ce : Try.prog.cellsOf 3 = 1 := by kernel_rfl
      have this : DataW.trod enc Try.prog w base spare held n 3 (((_ : List Value).drop 0).take (Try.prog.cellsOf 3)) = xs[0]? := hf 0 _ rfl
      rw [ce] at this; exact this
    rw [List.getElem?_eq_getElem (by rw [hx]; decide)] at f0
    obtain ⟨a0, e0, _, w0⟩ := DataW.trod_int Try.underlying3 f0
    simp only [List.cons.injEq, and_true] at e0
    obtain rfl := e0
    have f1 : DataW.trod enc Try.prog w base spare held n 3 [c1] = xs[1]? := by
      have ce : Try.prog.cellsOf 3 = 1 := by kernel_rfl
      have this : DataW.trod enc Try.prog w base spare held n 3 (((_ : List Value).drop 1).take (Try.prog.cellsOf 3)) = xs[1]? := hf 1 _ rfl
      rw [ce] at this; exact this
    rw [List.getElem?_eq_getElem (by rw [hx]; decide)] at f1
    obtain ⟨a1, e1, _, w1⟩ := DataW.trod_int Try.underlying3 f1
    simp only [List.cons.injEq, and_true] at e1
    obtain rfl := e1
    exact ⟨⟨a0, a1⟩, rfl, ⟨w0, w1⟩⟩
theorem Point.len (x : Point) : (Point.vals x).length = 2 := rfl
theorem Point.one (x : Point) : ∀ v ∈ Point.vals x, v.oneCell' = true := by simp [Point.vals, Value.oneCell']
theorem Point.encv (x : Point) : Point.cod.enc x = (Point.vals x).map Lf.val := rfl
end Go.Proofs.Ytdnfamkokhgdbaa
