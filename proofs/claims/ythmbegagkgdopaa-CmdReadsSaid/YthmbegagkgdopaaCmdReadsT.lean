/-
  Types of the program as the pure machine sees them. No condition.
-/
import Derived.Test.YthmbegagkgdopaaProg
import Derived.Test.YthmbegagkgdopaaRxZ
import Derived.Test.YthmbegagkgdopaaRxWr
namespace Go.Proofs.Ythmbegagkgdopaa
open Go Go.Rx
set_option maxRecDepth 100000
set_option linter.unusedVariables false
set_option linter.unusedSimpArgs false
set_option linter.unnecessarySimpa false
set_option linter.unnecessarySimpa false
structure A4 (α : Type) where
  (a0 a1 a2 a3 : α)
  deriving DecidableEq

structure Field where
  N : Int
  Text : ByteArray
  deriving DecidableEq
def Field.cells (x : Field) : List Lf := [li .i64 x.N, ls x.Text]
def Field.cod : Cod Field := ⟨2, Field.cells⟩

structure Point where
  X : Int
  Y : Int
  deriving DecidableEq
def Point.cells (x : Point) : List Lf := [li .i64 x.X, li .i64 x.Y]
def Point.cod : Cod Point := ⟨2, Point.cells⟩

structure Rect where
  X0 : Int
  Y0 : Int
  X1 : Int
  Y1 : Int
  deriving DecidableEq
def Rect.cells (x : Rect) : List Lf := [li .i64 x.X0, li .i64 x.Y0, li .i64 x.X1, li .i64 x.Y1]
def Rect.cod : Cod Rect := ⟨4, Rect.cells⟩

structure Command where
  Kind : Int
  ID : Int
  Which : Int
  To : Int
  At : Point
  F : (A4 Field)
  Value : Field
  Client : Int
  Session : Int
  Rect : Rect
  deriving DecidableEq
def Command.cells (x : Command) : List Lf := [li .i64 x.Kind, li .i64 x.ID, li .i64 x.Which, li .i64 x.To, li .i64 x.At.X, li .i64 x.At.Y, li .i64 x.F.a0.N, ls x.F.a0.Text, li .i64 x.F.a1.N, ls x.F.a1.Text, li .i64 x.F.a2.N, ls x.F.a2.Text, li .i64 x.F.a3.N, ls x.F.a3.Text, li .i64 x.Value.N, ls x.Value.Text, li .i64 x.Client, li .i64 x.Session, li .i64 x.Rect.X0, li .i64 x.Rect.Y0, li .i64 x.Rect.X1, li .i64 x.Rect.Y1]
def Command.cod : Cod Command := ⟨22, Command.cells⟩

def A4_Field.cells (x : (A4 Field)) : List Lf := [li .i64 x.a0.N, ls x.a0.Text, li .i64 x.a1.N, ls x.a1.Text, li .i64 x.a2.N, ls x.a2.Text, li .i64 x.a3.N, ls x.a3.Text]
def Point.eqb (x y : Point) : Bool := [x.X == y.X, x.Y == y.Y].all id
theorem Point_run (x y : Point) (d : Nat) : prun Try.prog (Op.equalIn (d + 2) 23 (.agg #[.int .i64 x.X, .int .i64 x.Y]) (.agg #[.int .i64 y.X, .int .i64 y.Y])) = some (Point.eqb x y) := by
  refine (eqst_run Try.underlying23 (by kernel_rfl) (d + 1) [(_, x.X == y.X), (_, x.Y == y.Y)] rfl ?_).trans (by kernel_rfl)
  intro p hp
  simp only [List.mem_cons, List.not_mem_nil, or_false] at hp
  rcases hp with rfl | rfl
  · exact ⟨by simp, (.int .i64 x.X), (.int .i64 y.X), by kernel_rfl, by kernel_rfl, eqk_run (k := .i64) Try.underlying3 _ _ _ _⟩
  · exact ⟨by simp, (.int .i64 x.Y), (.int .i64 y.Y), by kernel_rfl, by kernel_rfl, eqk_run (k := .i64) Try.underlying3 _ _ _ _⟩
theorem Point_eql (x y : Point) (cx cy : Bool) : prun Try.prog ((Prim.bin .eql 23 cx cy).sem [.agg #[.int .i64 x.X, .int .i64 x.Y], .agg #[.int .i64 y.X, .int .i64 y.Y]]) = some (.bool (Point.eqb x y)) := pr_eqst (Point_run x y 9998) (by kernel_rfl) cx cy
theorem Point_eqn (x y : Point) (cx cy : Bool) : prun Try.prog ((Prim.bin .neq 23 cx cy).sem [.agg #[.int .i64 x.X, .int .i64 x.Y], .agg #[.int .i64 y.X, .int .i64 y.Y]]) = some (.bool (!(Point.eqb x y))) := pr_nest (Point_run x y 9998) (by kernel_rfl) cx cy
def Field.eqb (x y : Field) : Bool := [x.N == y.N, x.Text == y.Text].all id
theorem Field_run (x y : Field) (d : Nat) : prun Try.prog (Op.equalIn (d + 2) 25 (.agg #[.int .i64 x.N, .string x.Text]) (.agg #[.int .i64 y.N, .string y.Text])) = some (Field.eqb x y) := by
  refine (eqst_run Try.underlying25 (by kernel_rfl) (d + 1) [(_, x.N == y.N), (_, x.Text == y.Text)] rfl ?_).trans (by kernel_rfl)
  intro p hp
  simp only [List.mem_cons, List.not_mem_nil, or_false] at hp
  rcases hp with rfl | rfl
  · exact ⟨by simp, (.int .i64 x.N), (.int .i64 y.N), by kernel_rfl, by kernel_rfl, eqk_run (k := .i64) Try.underlying2 _ _ _ _⟩
  · exact ⟨by simp, (.string x.Text), (.string y.Text), by kernel_rfl, by kernel_rfl, eqstr_run Try.underlying9 _ _ _⟩
theorem Field_eql (x y : Field) (cx cy : Bool) : prun Try.prog ((Prim.bin .eql 25 cx cy).sem [.agg #[.int .i64 x.N, .string x.Text], .agg #[.int .i64 y.N, .string y.Text]]) = some (.bool (Field.eqb x y)) := pr_eqst (Field_run x y 9998) (by kernel_rfl) cx cy
theorem Field_eqn (x y : Field) (cx cy : Bool) : prun Try.prog ((Prim.bin .neq 25 cx cy).sem [.agg #[.int .i64 x.N, .string x.Text], .agg #[.int .i64 y.N, .string y.Text]]) = some (.bool (!(Field.eqb x y))) := pr_nest (Field_run x y 9998) (by kernel_rfl) cx cy
def A4_Field.eqb (x y : (A4 Field)) : Bool := [Field.eqb x.a0 y.a0, Field.eqb x.a1 y.a1, Field.eqb x.a2 y.a2, Field.eqb x.a3 y.a3].all id
theorem A4_Field_run (x y : (A4 Field)) (d : Nat) : prun Try.prog (Op.equalIn (d + 3) 26 (.agg #[.int .i64 x.a0.N, .string x.a0.Text, .int .i64 x.a1.N, .string x.a1.Text, .int .i64 x.a2.N, .string x.a2.Text, .int .i64 x.a3.N, .string x.a3.Text]) (.agg #[.int .i64 y.a0.N, .string y.a0.Text, .int .i64 y.a1.N, .string y.a1.Text, .int .i64 y.a2.N, .string y.a2.Text, .int .i64 y.a3.N, .string y.a3.Text])) = some (A4_Field.eqb x y) := by
  refine (eqar_run (e := 25) (n := 4) (sz := 2) Try.underlying26 (by kernel_rfl) (d + 2) [Field.eqb x.a0 y.a0, Field.eqb x.a1 y.a1, Field.eqb x.a2 y.a2, Field.eqb x.a3 y.a3] rfl ?_).trans (by kernel_rfl)
  intro i hi
  match i, hi with
  | 0, _ => exact ⟨(.agg #[.int .i64 x.a0.N, .string x.a0.Text]), (.agg #[.int .i64 y.a0.N, .string y.a0.Text]), by kernel_rfl, by kernel_rfl, Field_run x.a0 y.a0 _⟩
  | 1, _ => exact ⟨(.agg #[.int .i64 x.a1.N, .string x.a1.Text]), (.agg #[.int .i64 y.a1.N, .string y.a1.Text]), by kernel_rfl, by kernel_rfl, Field_run x.a1 y.a1 _⟩
  | 2, _ => exact ⟨(.agg #[.int .i64 x.a2.N, .string x.a2.Text]), (.agg #[.int .i64 y.a2.N, .string y.a2.Text]), by kernel_rfl, by kernel_rfl, Field_run x.a2 y.a2 _⟩
  | 3, _ => exact ⟨(.agg #[.int .i64 x.a3.N, .string x.a3.Text]), (.agg #[.int .i64 y.a3.N, .string y.a3.Text]), by kernel_rfl, by kernel_rfl, Field_run x.a3 y.a3 _⟩
theorem A4_Field_eql (x y : (A4 Field)) (cx cy : Bool) : prun Try.prog ((Prim.bin .eql 26 cx cy).sem [.agg #[.int .i64 x.a0.N, .string x.a0.Text, .int .i64 x.a1.N, .string x.a1.Text, .int .i64 x.a2.N, .string x.a2.Text, .int .i64 x.a3.N, .string x.a3.Text], .agg #[.int .i64 y.a0.N, .string y.a0.Text, .int .i64 y.a1.N, .string y.a1.Text, .int .i64 y.a2.N, .string y.a2.Text, .int .i64 y.a3.N, .string y.a3.Text]]) = some (.bool (A4_Field.eqb x y)) := pr_eqst (A4_Field_run x y 9997) (by kernel_rfl) cx cy
theorem A4_Field_eqn (x y : (A4 Field)) (cx cy : Bool) : prun Try.prog ((Prim.bin .neq 26 cx cy).sem [.agg #[.int .i64 x.a0.N, .string x.a0.Text, .int .i64 x.a1.N, .string x.a1.Text, .int .i64 x.a2.N, .string x.a2.Text, .int .i64 x.a3.N, .string x.a3.Text], .agg #[.int .i64 y.a0.N, .string y.a0.Text, .int .i64 y.a1.N, .string y.a1.Text, .int .i64 y.a2.N, .string y.a2.Text, .int .i64 y.a3.N, .string y.a3.Text]]) = some (.bool (!(A4_Field.eqb x y))) := pr_nest (A4_Field_run x y 9997) (by kernel_rfl) cx cy
def Rect.eqb (x y : Rect) : Bool := [x.X0 == y.X0, x.Y0 == y.Y0, x.X1 == y.X1, x.Y1 == y.Y1].all id
theorem Rect_run (x y : Rect) (d : Nat) : prun Try.prog (Op.equalIn (d + 2) 55 (.agg #[.int .i64 x.X0, .int .i64 x.Y0, .int .i64 x.X1, .int .i64 x.Y1]) (.agg #[.int .i64 y.X0, .int .i64 y.Y0, .int .i64 y.X1, .int .i64 y.Y1])) = some (Rect.eqb x y) := by
  refine (eqst_run Try.underlying55 (by kernel_rfl) (d + 1) [(_, x.X0 == y.X0), (_, x.Y0 == y.Y0), (_, x.X1 == y.X1), (_, x.Y1 == y.Y1)] rfl ?_).trans (by kernel_rfl)
  intro p hp
  simp only [List.mem_cons, List.not_mem_nil, or_false] at hp
  rcases hp with rfl | rfl | rfl | rfl
  · exact ⟨by simp, (.int .i64 x.X0), (.int .i64 y.X0), by kernel_rfl, by kernel_rfl, eqk_run (k := .i64) Try.underlying3 _ _ _ _⟩
  · exact ⟨by simp, (.int .i64 x.Y0), (.int .i64 y.Y0), by kernel_rfl, by kernel_rfl, eqk_run (k := .i64) Try.underlying3 _ _ _ _⟩
  · exact ⟨by simp, (.int .i64 x.X1), (.int .i64 y.X1), by kernel_rfl, by kernel_rfl, eqk_run (k := .i64) Try.underlying3 _ _ _ _⟩
  · exact ⟨by simp, (.int .i64 x.Y1), (.int .i64 y.Y1), by kernel_rfl, by kernel_rfl, eqk_run (k := .i64) Try.underlying3 _ _ _ _⟩
theorem Rect_eql (x y : Rect) (cx cy : Bool) : prun Try.prog ((Prim.bin .eql 55 cx cy).sem [.agg #[.int .i64 x.X0, .int .i64 x.Y0, .int .i64 x.X1, .int .i64 x.Y1], .agg #[.int .i64 y.X0, .int .i64 y.Y0, .int .i64 y.X1, .int .i64 y.Y1]]) = some (.bool (Rect.eqb x y)) := pr_eqst (Rect_run x y 9998) (by kernel_rfl) cx cy
theorem Rect_eqn (x y : Rect) (cx cy : Bool) : prun Try.prog ((Prim.bin .neq 55 cx cy).sem [.agg #[.int .i64 x.X0, .int .i64 x.Y0, .int .i64 x.X1, .int .i64 x.Y1], .agg #[.int .i64 y.X0, .int .i64 y.Y0, .int .i64 y.X1, .int .i64 y.Y1]]) = some (.bool (!(Rect.eqb x y))) := pr_nest (Rect_run x y 9998) (by kernel_rfl) cx cy
def Command.eqb (x y : Command) : Bool := [x.Kind == y.Kind, x.ID == y.ID, x.Which == y.Which, x.To == y.To, Point.eqb x.At y.At, A4_Field.eqb x.F y.F, Field.eqb x.Value y.Value, x.Client == y.Client, x.Session == y.Session, Rect.eqb x.Rect y.Rect].all id
theorem Command_run (x y : Command) (d : Nat) : prun Try.prog (Op.equalIn (d + 4) 57 (.agg #[.int .i64 x.Kind, .int .i64 x.ID, .int .i64 x.Which, .int .i64 x.To, .int .i64 x.At.X, .int .i64 x.At.Y, .int .i64 x.F.a0.N, .string x.F.a0.Text, .int .i64 x.F.a1.N, .string x.F.a1.Text, .int .i64 x.F.a2.N, .string x.F.a2.Text, .int .i64 x.F.a3.N, .string x.F.a3.Text, .int .i64 x.Value.N, .string x.Value.Text, .int .i64 x.Client, .int .i64 x.Session, .int .i64 x.Rect.X0, .int .i64 x.Rect.Y0, .int .i64 x.Rect.X1, .int .i64 x.Rect.Y1]) (.agg #[.int .i64 y.Kind, .int .i64 y.ID, .int .i64 y.Which, .int .i64 y.To, .int .i64 y.At.X, .int .i64 y.At.Y, .int .i64 y.F.a0.N, .string y.F.a0.Text, .int .i64 y.F.a1.N, .string y.F.a1.Text, .int .i64 y.F.a2.N, .string y.F.a2.Text, .int .i64 y.F.a3.N, .string y.F.a3.Text, .int .i64 y.Value.N, .string y.Value.Text, .int .i64 y.Client, .int .i64 y.Session, .int .i64 y.Rect.X0, .int .i64 y.Rect.Y0, .int .i64 y.Rect.X1, .int .i64 y.Rect.Y1])) = some (Command.eqb x y) := by
  refine (eqst_run Try.underlying57 (by kernel_rfl) (d + 3) [(_, x.Kind == y.Kind), (_, x.ID == y.ID), (_, x.Which == y.Which), (_, x.To == y.To), (_, Point.eqb x.At y.At), (_, A4_Field.eqb x.F y.F), (_, Field.eqb x.Value y.Value), (_, x.Client == y.Client), (_, x.Session == y.Session), (_, Rect.eqb x.Rect y.Rect)] rfl ?_).trans (by kernel_rfl)
  intro p hp
  simp only [List.mem_cons, List.not_mem_nil, or_false] at hp
  rcases hp with rfl | rfl | rfl | rfl | rfl | rfl | rfl | rfl | rfl | rfl
  · exact ⟨by simp, (.int .i64 x.Kind), (.int .i64 y.Kind), by kernel_rfl, by kernel_rfl, eqk_run (k := .i64) Try.underlying3 _ _ _ _⟩
  · exact ⟨by simp, (.int .i64 x.ID), (.int .i64 y.ID), by kernel_rfl, by kernel_rfl, eqk_run (k := .i64) Try.underlying3 _ _ _ _⟩
  · exact ⟨by simp, (.int .i64 x.Which), (.int .i64 y.Which), by kernel_rfl, by kernel_rfl, eqk_run (k := .i64) Try.underlying3 _ _ _ _⟩
  · exact ⟨by simp, (.int .i64 x.To), (.int .i64 y.To), by kernel_rfl, by kernel_rfl, eqk_run (k := .i64) Try.underlying3 _ _ _ _⟩
  · exact ⟨by simp, (.agg #[.int .i64 x.At.X, .int .i64 x.At.Y]), (.agg #[.int .i64 y.At.X, .int .i64 y.At.Y]), by kernel_rfl, by kernel_rfl, Point_run x.At y.At _⟩
  · exact ⟨by simp, (.agg #[.int .i64 x.F.a0.N, .string x.F.a0.Text, .int .i64 x.F.a1.N, .string x.F.a1.Text, .int .i64 x.F.a2.N, .string x.F.a2.Text, .int .i64 x.F.a3.N, .string x.F.a3.Text]), (.agg #[.int .i64 y.F.a0.N, .string y.F.a0.Text, .int .i64 y.F.a1.N, .string y.F.a1.Text, .int .i64 y.F.a2.N, .string y.F.a2.Text, .int .i64 y.F.a3.N, .string y.F.a3.Text]), by kernel_rfl, by kernel_rfl, A4_Field_run x.F y.F _⟩
  · exact ⟨by simp, (.agg #[.int .i64 x.Value.N, .string x.Value.Text]), (.agg #[.int .i64 y.Value.N, .string y.Value.Text]), by kernel_rfl, by kernel_rfl, Field_run x.Value y.Value _⟩
  · exact ⟨by simp, (.int .i64 x.Client), (.int .i64 y.Client), by kernel_rfl, by kernel_rfl, eqk_run (k := .i64) Try.underlying3 _ _ _ _⟩
  · exact ⟨by simp, (.int .i64 x.Session), (.int .i64 y.Session), by kernel_rfl, by kernel_rfl, eqk_run (k := .i64) Try.underlying3 _ _ _ _⟩
  · exact ⟨by simp, (.agg #[.int .i64 x.Rect.X0, .int .i64 x.Rect.Y0, .int .i64 x.Rect.X1, .int .i64 x.Rect.Y1]), (.agg #[.int .i64 y.Rect.X0, .int .i64 y.Rect.Y0, .int .i64 y.Rect.X1, .int .i64 y.Rect.Y1]), by kernel_rfl, by kernel_rfl, Rect_run x.Rect y.Rect _⟩
theorem Command_eql (x y : Command) (cx cy : Bool) : prun Try.prog ((Prim.bin .eql 57 cx cy).sem [.agg #[.int .i64 x.Kind, .int .i64 x.ID, .int .i64 x.Which, .int .i64 x.To, .int .i64 x.At.X, .int .i64 x.At.Y, .int .i64 x.F.a0.N, .string x.F.a0.Text, .int .i64 x.F.a1.N, .string x.F.a1.Text, .int .i64 x.F.a2.N, .string x.F.a2.Text, .int .i64 x.F.a3.N, .string x.F.a3.Text, .int .i64 x.Value.N, .string x.Value.Text, .int .i64 x.Client, .int .i64 x.Session, .int .i64 x.Rect.X0, .int .i64 x.Rect.Y0, .int .i64 x.Rect.X1, .int .i64 x.Rect.Y1], .agg #[.int .i64 y.Kind, .int .i64 y.ID, .int .i64 y.Which, .int .i64 y.To, .int .i64 y.At.X, .int .i64 y.At.Y, .int .i64 y.F.a0.N, .string y.F.a0.Text, .int .i64 y.F.a1.N, .string y.F.a1.Text, .int .i64 y.F.a2.N, .string y.F.a2.Text, .int .i64 y.F.a3.N, .string y.F.a3.Text, .int .i64 y.Value.N, .string y.Value.Text, .int .i64 y.Client, .int .i64 y.Session, .int .i64 y.Rect.X0, .int .i64 y.Rect.Y0, .int .i64 y.Rect.X1, .int .i64 y.Rect.Y1]]) = some (.bool (Command.eqb x y)) := pr_eqst (Command_run x y 9996) (by kernel_rfl) cx cy
theorem Command_eqn (x y : Command) (cx cy : Bool) : prun Try.prog ((Prim.bin .neq 57 cx cy).sem [.agg #[.int .i64 x.Kind, .int .i64 x.ID, .int .i64 x.Which, .int .i64 x.To, .int .i64 x.At.X, .int .i64 x.At.Y, .int .i64 x.F.a0.N, .string x.F.a0.Text, .int .i64 x.F.a1.N, .string x.F.a1.Text, .int .i64 x.F.a2.N, .string x.F.a2.Text, .int .i64 x.F.a3.N, .string x.F.a3.Text, .int .i64 x.Value.N, .string x.Value.Text, .int .i64 x.Client, .int .i64 x.Session, .int .i64 x.Rect.X0, .int .i64 x.Rect.Y0, .int .i64 x.Rect.X1, .int .i64 x.Rect.Y1], .agg #[.int .i64 y.Kind, .int .i64 y.ID, .int .i64 y.Which, .int .i64 y.To, .int .i64 y.At.X, .int .i64 y.At.Y, .int .i64 y.F.a0.N, .string y.F.a0.Text, .int .i64 y.F.a1.N, .string y.F.a1.Text, .int .i64 y.F.a2.N, .string y.F.a2.Text, .int .i64 y.F.a3.N, .string y.F.a3.Text, .int .i64 y.Value.N, .string y.Value.Text, .int .i64 y.Client, .int .i64 y.Session, .int .i64 y.Rect.X0, .int .i64 y.Rect.Y0, .int .i64 y.Rect.X1, .int .i64 y.Rect.Y1]]) = some (.bool (!(Command.eqb x y))) := pr_nest (Command_run x y 9996) (by kernel_rfl) cx cy
abbrev zo (d : Nat) (op : POp) : POper := ⟨some d, op, none, []⟩
abbrev lj (n : Int) : Lf := li .i64 n
abbrev be : ByteArray := ByteArray.empty
abbrev qj (n : Int) : PV := .one (li .i64 n)
abbrev qb (b : Bool) : PV := .one (lb b)
abbrev qs (s : ByteArray) : PV := .one (ls s)
abbrev qp (k o : Nat) : PV := .one (.ptr k o)
instance (n : Nat) : OfNat Operand n := ⟨.tmp n⟩
abbrev kk (n : Int) : Operand := .const (.int .i64 n)
abbrev kf : Operand := .const (.bool false)
abbrev kt : Operand := .const (.bool true)
abbrev zf (d g : Nat) (op : POp) : POper := ⟨some d, op, some (g, false), []⟩
abbrev zt (d g : Nat) (op : POp) : POper := ⟨some d, op, some (g, true), []⟩
abbrev za (d x k o : Nat) (op : POp) : POper := ⟨some d, op, none, [(x, .at_ k o)]⟩
abbrev zs (op : POp) : POper := ⟨none, op, none, []⟩
abbrev zn (op : POp) (h : List (Nat × Hint)) : POper := ⟨none, op, none, h⟩
abbrev rg (o : List POper) : PCode := .region none false o
abbrev rh (o : List POper) : PCode := .region none true o
abbrev sq (a b : PCode) : PCode := .seq a b
abbrev rt : PCode := .ret
abbrev tz : PV := .tup []
abbrev iw : IntKind → Int → Int := IntKind.wrap
abbrev w0 (X : Command) : List Lf := [lj X.Kind, lj 0, lj 0, lj 0, lj 0, lj 0, lj 0, ls be, lj 0, ls be, lj 0, ls be, lj 0, ls be, lj 0, ls be, lj X.Client, lj X.Session, lj 0, lj 0, lj 0, lj 0]
abbrev w1 (X : Command) : List Lf := [lj X.Kind, lj 0, lj 0, lj 0, lj 0, lj 0, lj 0, ls be, lj 0, ls be, lj 0, ls be, lj 0, ls be, lj 0, ls be, lj X.Client, lj X.Session, lj X.Rect.X0, lj X.Rect.Y0, lj X.Rect.X1, lj X.Rect.Y1]
abbrev w2 (X : Command) : List Lf := [lj X.Kind, lj X.ID, lj 0, lj 0, lj 0, lj 0, lj 0, ls be, lj 0, ls be, lj 0, ls be, lj 0, ls be, lj 0, ls be, lj X.Client, lj X.Session, lj 0, lj 0, lj 0, lj 0]
abbrev w3 (X : Command) : List Lf := [lj X.Kind, lj X.ID, lj 0, lj 0, lj X.At.X, lj X.At.Y, lj 0, ls be, lj 0, ls be, lj 0, ls be, lj 0, ls be, lj 0, ls be, lj X.Client, lj X.Session, lj 0, lj 0, lj 0, lj 0]
abbrev w4 (X : Command) : List Lf := [lj X.Kind, lj X.ID, lj X.Which, lj 0, lj 0, lj 0, lj 0, ls be, lj 0, ls be, lj 0, ls be, lj 0, ls be, lj X.Value.N, ls X.Value.Text, lj X.Client, lj X.Session, lj 0, lj 0, lj 0, lj 0]
abbrev w5 (X : Command) : List Lf := [lj X.Kind, lj 0, lj X.Which, lj X.To, lj 0, lj 0, lj 0, ls be, lj 0, ls be, lj 0, ls be, lj 0, ls be, lj 0, ls be, lj X.Client, lj X.Session, lj 0, lj 0, lj 0, lj 0]
abbrev w6 (X : Command) : List (Nat × PV) := [(58, qp 3 18), (57, .agg (Rect.cells X.Rect)), (56, qp 1 18)]
abbrev w7 (X : Field) : List (Nat × PV) := [(11, qb (X.Text.toList == be.toList)), (10, qb (X.Text.toList == be.toList)), (9, qb (X.Text.toList == be.toList)), (8, qs X.Text), (7, qp 1 1)]
abbrev w8 (X : Field) : List (Nat × PV) := [(2, qb (decide ((X.Text.size : Int) ≤ 12))), (16, qb (decide ((X.Text.size : Int) ≤ 12))), (15, qb (decide ((X.Text.size : Int) ≤ 12))), (14, qj (X.Text.size : Int)), (13, qs X.Text), (12, qp 1 1)]
abbrev w9 (X : Command) : List Lf := [lj X.Kind, lj 0, lj 0, lj 0, lj X.At.X, lj X.At.Y, lj 0, ls be, lj 0, ls be, lj 0, ls be, lj 0, ls be, lj 0, ls be, lj X.Client, lj X.Session, lj 0, lj 0, lj 0, lj 0]
abbrev w10 (X : Command) : List Lf := [lj X.Kind, lj X.ID, lj X.Which, lj 0, lj 0, lj 0, lj 0, ls be, lj 0, ls be, lj 0, ls be, lj 0, ls be, lj 0, ls be, lj X.Client, lj X.Session, lj 0, lj 0, lj 0, lj 0]
abbrev w11 (X : Command) : List (Nat × PV) := [(52, qp 3 3), (51, qp 3 2), (50, qj X.To), (49, qp 1 3), (48, qj X.Which), (47, qp 1 2)]
abbrev w12 (X : Command) : List Lf := [lj X.Kind, lj 0, lj X.Which, lj 0, lj 0, lj 0, lj 0, ls be, lj 0, ls be, lj 0, ls be, lj 0, ls be, lj 0, ls be, lj X.Client, lj X.Session, lj 0, lj 0, lj 0, lj 0]
end Go.Proofs.Ythmbegagkgdopaa
