/-
  Types of the program as the pure machine sees them. No condition.
-/
import Derived.Test.YtdnfamkokhgdbaaProg
import Derived.Test.YtdnfamkokhgdbaaRxU
namespace Go.Proofs.Ytdnfamkokhgdbaa
open Go Go.Rx
set_option maxRecDepth 100000
set_option linter.unusedVariables false
set_option linter.unusedSimpArgs false
set_option linter.unnecessarySimpa false
structure Rect where
  X0 : Int
  Y0 : Int
  X1 : Int
  Y1 : Int
  deriving DecidableEq
def Rect.cells (x : Rect) : List Lf := [li .i64 x.X0, li .i64 x.Y0, li .i64 x.X1, li .i64 x.Y1]
def Rect.cod : Cod Rect := ⟨4, Rect.cells⟩

structure Point where
  X : Int
  Y : Int
  deriving DecidableEq
def Point.cells (x : Point) : List Lf := [li .i64 x.X, li .i64 x.Y]
def Point.cod : Cod Point := ⟨2, Point.cells⟩

def Rect.eqb (x y : Rect) : Bool := [x.X0 == y.X0, x.Y0 == y.Y0, x.X1 == y.X1, x.Y1 == y.Y1].all id
theorem Rect_run (x y : Rect) (d : Nat) : prun Try.prog (Op.equalIn (d + 2) 35 (.agg #[.int .i64 x.X0, .int .i64 x.Y0, .int .i64 x.X1, .int .i64 x.Y1]) (.agg #[.int .i64 y.X0, .int .i64 y.Y0, .int .i64 y.X1, .int .i64 y.Y1])) = some (Rect.eqb x y) := by
  refine (eqst_run Try.underlying35 (by kernel_rfl) (d + 1) [(_, x.X0 == y.X0), (_, x.Y0 == y.Y0), (_, x.X1 == y.X1), (_, x.Y1 == y.Y1)] rfl ?_).trans (by kernel_rfl)
  intro p hp
  simp only [List.mem_cons, List.not_mem_nil, or_false] at hp
  rcases hp with rfl | rfl | rfl | rfl
  · exact ⟨by simp, (.int .i64 x.X0), (.int .i64 y.X0), by kernel_rfl, by kernel_rfl, eqk_run (k := .i64) Try.underlying3 _ _ _ _⟩
  · exact ⟨by simp, (.int .i64 x.Y0), (.int .i64 y.Y0), by kernel_rfl, by kernel_rfl, eqk_run (k := .i64) Try.underlying3 _ _ _ _⟩
  · exact ⟨by simp, (.int .i64 x.X1), (.int .i64 y.X1), by kernel_rfl, by kernel_rfl, eqk_run (k := .i64) Try.underlying3 _ _ _ _⟩
  · exact ⟨by simp, (.int .i64 x.Y1), (.int .i64 y.Y1), by kernel_rfl, by kernel_rfl, eqk_run (k := .i64) Try.underlying3 _ _ _ _⟩
theorem Rect_eql (x y : Rect) (cx cy : Bool) : prun Try.prog ((Prim.bin .eql 35 cx cy).sem [.agg #[.int .i64 x.X0, .int .i64 x.Y0, .int .i64 x.X1, .int .i64 x.Y1], .agg #[.int .i64 y.X0, .int .i64 y.Y0, .int .i64 y.X1, .int .i64 y.Y1]]) = some (.bool (Rect.eqb x y)) := pr_eqst (Rect_run x y 9998) (by kernel_rfl) cx cy
theorem Rect_eqn (x y : Rect) (cx cy : Bool) : prun Try.prog ((Prim.bin .neq 35 cx cy).sem [.agg #[.int .i64 x.X0, .int .i64 x.Y0, .int .i64 x.X1, .int .i64 x.Y1], .agg #[.int .i64 y.X0, .int .i64 y.Y0, .int .i64 y.X1, .int .i64 y.Y1]]) = some (.bool (!(Rect.eqb x y))) := pr_nest (Rect_run x y 9998) (by kernel_rfl) cx cy
end Go.Proofs.Ytdnfamkokhgdbaa
