/- No condition. -/
import Derived.Test.YtobeamaaifgllaaProg
import Derived.Test.YtobeamaaifgllaaRxZa
import Derived.Test.YtobeamaaifgllaaRxWr
namespace Go.Proofs.Ytobeamaaifgllaa
open Go Go.Rx
set_option maxRecDepth 100000
set_option linter.unusedVariables false
set_option linter.unusedSimpArgs false
set_option linter.unnecessarySimpa false
set_option linter.unnecessarySimpa false
set_option linter.unnecessarySimpa false
structure A4 (α : Type) where
 (a0 a1 a2 a3 : α)
 deriving DecidableEq
structure Point where
 X : Int
 Y : Int
 deriving DecidableEq
def Point.cells (x : Point) : List Lf := [li .i64 x.X, li .i64 x.Y]
def Point.cod : Cod Point := ⟨2, Point.cells⟩
structure Field where
 N : Int
 Text : ByteArray
 deriving DecidableEq
def Field.cells (x : Field) : List Lf := [li .i64 x.N, ls x.Text]
def Field.cod : Cod Field := ⟨2, Field.cells⟩
structure Thing where
 ID : Int
 At : Point
 F : (A4 Field)
 deriving DecidableEq
def Thing.cells (x : Thing) : List Lf := [li .i64 x.ID, li .i64 x.At.X, li .i64 x.At.Y, li .i64 x.F.a0.N, ls x.F.a0.Text, li .i64 x.F.a1.N, ls x.F.a1.Text, li .i64 x.F.a2.N, ls x.F.a2.Text, li .i64 x.F.a3.N, ls x.F.a3.Text]
def Thing.cod : Cod Thing := ⟨11, Thing.cells⟩
structure Delta where
 ID : Int
 Mask : Int
 At : Point
 F : (A4 Field)
 deriving DecidableEq
def Delta.cells (x : Delta) : List Lf := [li .i64 x.ID, li .u8 x.Mask, li .i64 x.At.X, li .i64 x.At.Y, li .i64 x.F.a0.N, ls x.F.a0.Text, li .i64 x.F.a1.N, ls x.F.a1.Text, li .i64 x.F.a2.N, ls x.F.a2.Text, li .i64 x.F.a3.N, ls x.F.a3.Text]
def Delta.cod : Cod Delta := ⟨12, Delta.cells⟩
structure Event where
 Kind : Int
 ID : Int
 Thing : Thing
 Delta : Delta
 deriving DecidableEq
def Event.cells (x : Event) : List Lf := [li .i64 x.Kind, li .i64 x.ID, li .i64 x.Thing.ID, li .i64 x.Thing.At.X, li .i64 x.Thing.At.Y, li .i64 x.Thing.F.a0.N, ls x.Thing.F.a0.Text, li .i64 x.Thing.F.a1.N, ls x.Thing.F.a1.Text, li .i64 x.Thing.F.a2.N, ls x.Thing.F.a2.Text, li .i64 x.Thing.F.a3.N, ls x.Thing.F.a3.Text, li .i64 x.Delta.ID, li .u8 x.Delta.Mask, li .i64 x.Delta.At.X, li .i64 x.Delta.At.Y, li .i64 x.Delta.F.a0.N, ls x.Delta.F.a0.Text, li .i64 x.Delta.F.a1.N, ls x.Delta.F.a1.Text, li .i64 x.Delta.F.a2.N, ls x.Delta.F.a2.Text, li .i64 x.Delta.F.a3.N, ls x.Delta.F.a3.Text]
def Event.cod : Cod Event := ⟨25, Event.cells⟩
structure Reader where
 s : ByteArray
 at_ : Int
 e : Int
 deriving DecidableEq
def Reader.cells (x : Reader) : List Lf := [ls x.s, li .i64 x.at_, li .i64 x.e]
def Reader.cod : Cod Reader := ⟨3, Reader.cells⟩
structure Rect where
 X0 : Int
 Y0 : Int
 X1 : Int
 Y1 : Int
 deriving DecidableEq
def Rect.cells (x : Rect) : List Lf := [li .i64 x.X0, li .i64 x.Y0, li .i64 x.X1, li .i64 x.Y1]
def Rect.cod : Cod Rect := ⟨4, Rect.cells⟩
def A4_Field.cells (x : (A4 Field)) : List Lf := [li .i64 x.a0.N, ls x.a0.Text, li .i64 x.a1.N, ls x.a1.Text, li .i64 x.a2.N, ls x.a2.Text, li .i64 x.a3.N, ls x.a3.Text]
def Point.eqb (x y : Point) : Bool := [x.X == y.X, x.Y == y.Y].all id
theorem Point_run (x y : Point) (d : Nat) : prun Try.prog (Op.equalIn (d + 2) 23 (.agg #[.int .i64 x.X, .int .i64 x.Y]) (.agg #[.int .i64 y.X, .int .i64 y.Y])) = some (Point.eqb x y) := by
 refine (eqst_run Try.underlying23 (by kernel_rfl) (d + 1) [(_, x.X == y.X), (_, x.Y == y.Y)] rfl ?_).trans (by kernel_rfl)
 intro p hp
 simp only [List.mem_cons, List.not_mem_nil, or_false] at hp
 rcases hp with rfl | rfl
 ·exact ⟨by simp, (.int .i64 x.X), (.int .i64 y.X), by kernel_rfl, by kernel_rfl, eqk_run (k := .i64) Try.underlying3 _ _ _ _⟩
 ·exact ⟨by simp, (.int .i64 x.Y), (.int .i64 y.Y), by kernel_rfl, by kernel_rfl, eqk_run (k := .i64) Try.underlying3 _ _ _ _⟩
theorem Point_eql (x y : Point) (cx cy : Bool) : prun Try.prog ((Prim.bin .eql 23 cx cy).sem [.agg #[.int .i64 x.X, .int .i64 x.Y], .agg #[.int .i64 y.X, .int .i64 y.Y]]) = some (.bool (Point.eqb x y)) := pr_eqst (Point_run x y 9998) (by kernel_rfl) cx cy
theorem Point_eqn (x y : Point) (cx cy : Bool) : prun Try.prog ((Prim.bin .neq 23 cx cy).sem [.agg #[.int .i64 x.X, .int .i64 x.Y], .agg #[.int .i64 y.X, .int .i64 y.Y]]) = some (.bool (!(Point.eqb x y))) := pr_nest (Point_run x y 9998) (by kernel_rfl) cx cy
def Field.eqb (x y : Field) : Bool := [x.N == y.N, x.Text == y.Text].all id
theorem Field_run (x y : Field) (d : Nat) : prun Try.prog (Op.equalIn (d + 2) 25 (.agg #[.int .i64 x.N, .string x.Text]) (.agg #[.int .i64 y.N, .string y.Text])) = some (Field.eqb x y) := by
 refine (eqst_run Try.underlying25 (by kernel_rfl) (d + 1) [(_, x.N == y.N), (_, x.Text == y.Text)] rfl ?_).trans (by kernel_rfl)
 intro p hp
 simp only [List.mem_cons, List.not_mem_nil, or_false] at hp
 rcases hp with rfl | rfl
 ·exact ⟨by simp, (.int .i64 x.N), (.int .i64 y.N), by kernel_rfl, by kernel_rfl, eqk_run (k := .i64) Try.underlying2 _ _ _ _⟩
 ·exact ⟨by simp, (.string x.Text), (.string y.Text), by kernel_rfl, by kernel_rfl, eqstr_run Try.underlying9 _ _ _⟩
theorem Field_eql (x y : Field) (cx cy : Bool) : prun Try.prog ((Prim.bin .eql 25 cx cy).sem [.agg #[.int .i64 x.N, .string x.Text], .agg #[.int .i64 y.N, .string y.Text]]) = some (.bool (Field.eqb x y)) := pr_eqst (Field_run x y 9998) (by kernel_rfl) cx cy
theorem Field_eqn (x y : Field) (cx cy : Bool) : prun Try.prog ((Prim.bin .neq 25 cx cy).sem [.agg #[.int .i64 x.N, .string x.Text], .agg #[.int .i64 y.N, .string y.Text]]) = some (.bool (!(Field.eqb x y))) := pr_nest (Field_run x y 9998) (by kernel_rfl) cx cy
def A4_Field.eqb (x y : (A4 Field)) : Bool := [Field.eqb x.a0 y.a0, Field.eqb x.a1 y.a1, Field.eqb x.a2 y.a2, Field.eqb x.a3 y.a3].all id
theorem A4_Field_run (x y : (A4 Field)) (d : Nat) : prun Try.prog (Op.equalIn (d + 3) 26 (.agg #[.int .i64 x.a0.N, .string x.a0.Text, .int .i64 x.a1.N, .string x.a1.Text, .int .i64 x.a2.N, .string x.a2.Text, .int .i64 x.a3.N, .string x.a3.Text]) (.agg #[.int .i64 y.a0.N, .string y.a0.Text, .int .i64 y.a1.N, .string y.a1.Text, .int .i64 y.a2.N, .string y.a2.Text, .int .i64 y.a3.N, .string y.a3.Text])) = some (A4_Field.eqb x y) := by
 refine (eqar_run (e := 25) (n := 4) (sz := 2) Try.underlying26 (by kernel_rfl) (d + 2) [Field.eqb x.a0 y.a0, Field.eqb x.a1 y.a1, Field.eqb x.a2 y.a2, Field.eqb x.a3 y.a3] rfl ?_).trans (by kernel_rfl)
 intro i hi
 match i, hi with
 | 0, _ => exact ⟨(.agg #[.int .i64 x.a0.N, .string x.a0.Text]), (.agg #[.int .i64 y.a0.N, .string y.a0.Text]), by kernel_rfl, by kernel_rfl, Field_run x.a0 y.a0 _⟩
 | 1, _ => exact ⟨(.agg #[.int .i64 x.a1.N, .string x.a1.Text]), (.agg #[.int .i64 y.a1.N, .string y.a1.Text]), by kernel_rfl, by kernel_rfl, Field_run x.a1 y.a1 _⟩
 | 2, _ => exact ⟨(.agg #[.int .i64 x.a2.N, .string x.a2.Text]), (.agg #[.int .i64 y.a2.N, .string y.a2.Text]), by kernel_rfl, by kernel_rfl, Field_run x.a2 y.a2 _⟩
 | 3, _ => exact ⟨(.agg #[.int .i64 x.a3.N, .string x.a3.Text]), (.agg #[.int .i64 y.a3.N, .string y.a3.Text]), by kernel_rfl, by kernel_rfl, Field_run x.a3 y.a3 _⟩
theorem A4_Field_eql (x y : (A4 Field)) (cx cy : Bool) : prun Try.prog ((Prim.bin .eql 26 cx cy).sem [.agg #[.int .i64 x.a0.N, .string x.a0.Text, .int .i64 x.a1.N, .string x.a1.Text, .int .i64 x.a2.N, .string x.a2.Text, .int .i64 x.a3.N, .string x.a3.Text], .agg #[.int .i64 y.a0.N, .string y.a0.Text, .int .i64 y.a1.N, .string y.a1.Text, .int .i64 y.a2.N, .string y.a2.Text, .int .i64 y.a3.N, .string y.a3.Text]]) = some (.bool (A4_Field.eqb x y)) := pr_eqst (A4_Field_run x y 9997) (by kernel_rfl) cx cy
theorem A4_Field_eqn (x y : (A4 Field)) (cx cy : Bool) : prun Try.prog ((Prim.bin .neq 26 cx cy).sem [.agg #[.int .i64 x.a0.N, .string x.a0.Text, .int .i64 x.a1.N, .string x.a1.Text, .int .i64 x.a2.N, .string x.a2.Text, .int .i64 x.a3.N, .string x.a3.Text], .agg #[.int .i64 y.a0.N, .string y.a0.Text, .int .i64 y.a1.N, .string y.a1.Text, .int .i64 y.a2.N, .string y.a2.Text, .int .i64 y.a3.N, .string y.a3.Text]]) = some (.bool (!(A4_Field.eqb x y))) := pr_nest (A4_Field_run x y 9997) (by kernel_rfl) cx cy
def Thing.eqb (x y : Thing) : Bool := [x.ID == y.ID, Point.eqb x.At y.At, A4_Field.eqb x.F y.F].all id
theorem Thing_run (x y : Thing) (d : Nat) : prun Try.prog (Op.equalIn (d + 4) 28 (.agg #[.int .i64 x.ID, .int .i64 x.At.X, .int .i64 x.At.Y, .int .i64 x.F.a0.N, .string x.F.a0.Text, .int .i64 x.F.a1.N, .string x.F.a1.Text, .int .i64 x.F.a2.N, .string x.F.a2.Text, .int .i64 x.F.a3.N, .string x.F.a3.Text]) (.agg #[.int .i64 y.ID, .int .i64 y.At.X, .int .i64 y.At.Y, .int .i64 y.F.a0.N, .string y.F.a0.Text, .int .i64 y.F.a1.N, .string y.F.a1.Text, .int .i64 y.F.a2.N, .string y.F.a2.Text, .int .i64 y.F.a3.N, .string y.F.a3.Text])) = some (Thing.eqb x y) := by
 refine (eqst_run Try.underlying28 (by kernel_rfl) (d + 3) [(_, x.ID == y.ID), (_, Point.eqb x.At y.At), (_, A4_Field.eqb x.F y.F)] rfl ?_).trans (by kernel_rfl)
 intro p hp
 simp only [List.mem_cons, List.not_mem_nil, or_false] at hp
 rcases hp with rfl | rfl | rfl
 ·exact ⟨by simp, (.int .i64 x.ID), (.int .i64 y.ID), by kernel_rfl, by kernel_rfl, eqk_run (k := .i64) Try.underlying3 _ _ _ _⟩
 ·exact ⟨by simp, (.agg #[.int .i64 x.At.X, .int .i64 x.At.Y]), (.agg #[.int .i64 y.At.X, .int .i64 y.At.Y]), by kernel_rfl, by kernel_rfl, Point_run x.At y.At _⟩
 ·exact ⟨by simp, (.agg #[.int .i64 x.F.a0.N, .string x.F.a0.Text, .int .i64 x.F.a1.N, .string x.F.a1.Text, .int .i64 x.F.a2.N, .string x.F.a2.Text, .int .i64 x.F.a3.N, .string x.F.a3.Text]), (.agg #[.int .i64 y.F.a0.N, .string y.F.a0.Text, .int .i64 y.F.a1.N, .string y.F.a1.Text, .int .i64 y.F.a2.N, .string y.F.a2.Text, .int .i64 y.F.a3.N, .string y.F.a3.Text]), by kernel_rfl, by kernel_rfl, A4_Field_run x.F y.F _⟩
theorem Thing_eql (x y : Thing) (cx cy : Bool) : prun Try.prog ((Prim.bin .eql 28 cx cy).sem [.agg #[.int .i64 x.ID, .int .i64 x.At.X, .int .i64 x.At.Y, .int .i64 x.F.a0.N, .string x.F.a0.Text, .int .i64 x.F.a1.N, .string x.F.a1.Text, .int .i64 x.F.a2.N, .string x.F.a2.Text, .int .i64 x.F.a3.N, .string x.F.a3.Text], .agg #[.int .i64 y.ID, .int .i64 y.At.X, .int .i64 y.At.Y, .int .i64 y.F.a0.N, .string y.F.a0.Text, .int .i64 y.F.a1.N, .string y.F.a1.Text, .int .i64 y.F.a2.N, .string y.F.a2.Text, .int .i64 y.F.a3.N, .string y.F.a3.Text]]) = some (.bool (Thing.eqb x y)) := pr_eqst (Thing_run x y 9996) (by kernel_rfl) cx cy
theorem Thing_eqn (x y : Thing) (cx cy : Bool) : prun Try.prog ((Prim.bin .neq 28 cx cy).sem [.agg #[.int .i64 x.ID, .int .i64 x.At.X, .int .i64 x.At.Y, .int .i64 x.F.a0.N, .string x.F.a0.Text, .int .i64 x.F.a1.N, .string x.F.a1.Text, .int .i64 x.F.a2.N, .string x.F.a2.Text, .int .i64 x.F.a3.N, .string x.F.a3.Text], .agg #[.int .i64 y.ID, .int .i64 y.At.X, .int .i64 y.At.Y, .int .i64 y.F.a0.N, .string y.F.a0.Text, .int .i64 y.F.a1.N, .string y.F.a1.Text, .int .i64 y.F.a2.N, .string y.F.a2.Text, .int .i64 y.F.a3.N, .string y.F.a3.Text]]) = some (.bool (!(Thing.eqb x y))) := pr_nest (Thing_run x y 9996) (by kernel_rfl) cx cy
def Delta.eqb (x y : Delta) : Bool := [x.ID == y.ID, x.Mask == y.Mask, Point.eqb x.At y.At, A4_Field.eqb x.F y.F].all id
theorem Delta_run (x y : Delta) (d : Nat) : prun Try.prog (Op.equalIn (d + 4) 35 (.agg #[.int .i64 x.ID, .int .u8 x.Mask, .int .i64 x.At.X, .int .i64 x.At.Y, .int .i64 x.F.a0.N, .string x.F.a0.Text, .int .i64 x.F.a1.N, .string x.F.a1.Text, .int .i64 x.F.a2.N, .string x.F.a2.Text, .int .i64 x.F.a3.N, .string x.F.a3.Text]) (.agg #[.int .i64 y.ID, .int .u8 y.Mask, .int .i64 y.At.X, .int .i64 y.At.Y, .int .i64 y.F.a0.N, .string y.F.a0.Text, .int .i64 y.F.a1.N, .string y.F.a1.Text, .int .i64 y.F.a2.N, .string y.F.a2.Text, .int .i64 y.F.a3.N, .string y.F.a3.Text])) = some (Delta.eqb x y) := by
 refine (eqst_run Try.underlying35 (by kernel_rfl) (d + 3) [(_, x.ID == y.ID), (_, x.Mask == y.Mask), (_, Point.eqb x.At y.At), (_, A4_Field.eqb x.F y.F)] rfl ?_).trans (by kernel_rfl)
 intro p hp
 simp only [List.mem_cons, List.not_mem_nil, or_false] at hp
 rcases hp with rfl | rfl | rfl | rfl
 ·exact ⟨by simp, (.int .i64 x.ID), (.int .i64 y.ID), by kernel_rfl, by kernel_rfl, eqk_run (k := .i64) Try.underlying3 _ _ _ _⟩
 ·exact ⟨by simp, (.int .u8 x.Mask), (.int .u8 y.Mask), by kernel_rfl, by kernel_rfl, eqk_run (k := .u8) Try.underlying5 _ _ _ _⟩
 ·exact ⟨by simp, (.agg #[.int .i64 x.At.X, .int .i64 x.At.Y]), (.agg #[.int .i64 y.At.X, .int .i64 y.At.Y]), by kernel_rfl, by kernel_rfl, Point_run x.At y.At _⟩
 ·exact ⟨by simp, (.agg #[.int .i64 x.F.a0.N, .string x.F.a0.Text, .int .i64 x.F.a1.N, .string x.F.a1.Text, .int .i64 x.F.a2.N, .string x.F.a2.Text, .int .i64 x.F.a3.N, .string x.F.a3.Text]), (.agg #[.int .i64 y.F.a0.N, .string y.F.a0.Text, .int .i64 y.F.a1.N, .string y.F.a1.Text, .int .i64 y.F.a2.N, .string y.F.a2.Text, .int .i64 y.F.a3.N, .string y.F.a3.Text]), by kernel_rfl, by kernel_rfl, A4_Field_run x.F y.F _⟩
theorem Delta_eql (x y : Delta) (cx cy : Bool) : prun Try.prog ((Prim.bin .eql 35 cx cy).sem [.agg #[.int .i64 x.ID, .int .u8 x.Mask, .int .i64 x.At.X, .int .i64 x.At.Y, .int .i64 x.F.a0.N, .string x.F.a0.Text, .int .i64 x.F.a1.N, .string x.F.a1.Text, .int .i64 x.F.a2.N, .string x.F.a2.Text, .int .i64 x.F.a3.N, .string x.F.a3.Text], .agg #[.int .i64 y.ID, .int .u8 y.Mask, .int .i64 y.At.X, .int .i64 y.At.Y, .int .i64 y.F.a0.N, .string y.F.a0.Text, .int .i64 y.F.a1.N, .string y.F.a1.Text, .int .i64 y.F.a2.N, .string y.F.a2.Text, .int .i64 y.F.a3.N, .string y.F.a3.Text]]) = some (.bool (Delta.eqb x y)) := pr_eqst (Delta_run x y 9996) (by kernel_rfl) cx cy
theorem Delta_eqn (x y : Delta) (cx cy : Bool) : prun Try.prog ((Prim.bin .neq 35 cx cy).sem [.agg #[.int .i64 x.ID, .int .u8 x.Mask, .int .i64 x.At.X, .int .i64 x.At.Y, .int .i64 x.F.a0.N, .string x.F.a0.Text, .int .i64 x.F.a1.N, .string x.F.a1.Text, .int .i64 x.F.a2.N, .string x.F.a2.Text, .int .i64 x.F.a3.N, .string x.F.a3.Text], .agg #[.int .i64 y.ID, .int .u8 y.Mask, .int .i64 y.At.X, .int .i64 y.At.Y, .int .i64 y.F.a0.N, .string y.F.a0.Text, .int .i64 y.F.a1.N, .string y.F.a1.Text, .int .i64 y.F.a2.N, .string y.F.a2.Text, .int .i64 y.F.a3.N, .string y.F.a3.Text]]) = some (.bool (!(Delta.eqb x y))) := pr_nest (Delta_run x y 9996) (by kernel_rfl) cx cy
def Event.eqb (x y : Event) : Bool := [x.Kind == y.Kind, x.ID == y.ID, Thing.eqb x.Thing y.Thing, Delta.eqb x.Delta y.Delta].all id
theorem Event_run (x y : Event) (d : Nat) : prun Try.prog (Op.equalIn (d + 5) 67 (.agg #[.int .i64 x.Kind, .int .i64 x.ID, .int .i64 x.Thing.ID, .int .i64 x.Thing.At.X, .int .i64 x.Thing.At.Y, .int .i64 x.Thing.F.a0.N, .string x.Thing.F.a0.Text, .int .i64 x.Thing.F.a1.N, .string x.Thing.F.a1.Text, .int .i64 x.Thing.F.a2.N, .string x.Thing.F.a2.Text, .int .i64 x.Thing.F.a3.N, .string x.Thing.F.a3.Text, .int .i64 x.Delta.ID, .int .u8 x.Delta.Mask, .int .i64 x.Delta.At.X, .int .i64 x.Delta.At.Y, .int .i64 x.Delta.F.a0.N, .string x.Delta.F.a0.Text, .int .i64 x.Delta.F.a1.N, .string x.Delta.F.a1.Text, .int .i64 x.Delta.F.a2.N, .string x.Delta.F.a2.Text, .int .i64 x.Delta.F.a3.N, .string x.Delta.F.a3.Text]) (.agg #[.int .i64 y.Kind, .int .i64 y.ID, .int .i64 y.Thing.ID, .int .i64 y.Thing.At.X, .int .i64 y.Thing.At.Y, .int .i64 y.Thing.F.a0.N, .string y.Thing.F.a0.Text, .int .i64 y.Thing.F.a1.N, .string y.Thing.F.a1.Text, .int .i64 y.Thing.F.a2.N, .string y.Thing.F.a2.Text, .int .i64 y.Thing.F.a3.N, .string y.Thing.F.a3.Text, .int .i64 y.Delta.ID, .int .u8 y.Delta.Mask, .int .i64 y.Delta.At.X, .int .i64 y.Delta.At.Y, .int .i64 y.Delta.F.a0.N, .string y.Delta.F.a0.Text, .int .i64 y.Delta.F.a1.N, .string y.Delta.F.a1.Text, .int .i64 y.Delta.F.a2.N, .string y.Delta.F.a2.Text, .int .i64 y.Delta.F.a3.N, .string y.Delta.F.a3.Text])) = some (Event.eqb x y) := by
 refine (eqst_run Try.underlying67 (by kernel_rfl) (d + 4) [(_, x.Kind == y.Kind), (_, x.ID == y.ID), (_, Thing.eqb x.Thing y.Thing), (_, Delta.eqb x.Delta y.Delta)] rfl ?_).trans (by kernel_rfl)
 intro p hp
 simp only [List.mem_cons, List.not_mem_nil, or_false] at hp
 rcases hp with rfl | rfl | rfl | rfl
 ·exact ⟨by simp, (.int .i64 x.Kind), (.int .i64 y.Kind), by kernel_rfl, by kernel_rfl, eqk_run (k := .i64) Try.underlying3 _ _ _ _⟩
 ·exact ⟨by simp, (.int .i64 x.ID), (.int .i64 y.ID), by kernel_rfl, by kernel_rfl, eqk_run (k := .i64) Try.underlying3 _ _ _ _⟩
 ·exact ⟨by simp, (.agg #[.int .i64 x.Thing.ID, .int .i64 x.Thing.At.X, .int .i64 x.Thing.At.Y, .int .i64 x.Thing.F.a0.N, .string x.Thing.F.a0.Text, .int .i64 x.Thing.F.a1.N, .string x.Thing.F.a1.Text, .int .i64 x.Thing.F.a2.N, .string x.Thing.F.a2.Text, .int .i64 x.Thing.F.a3.N, .string x.Thing.F.a3.Text]), (.agg #[.int .i64 y.Thing.ID, .int .i64 y.Thing.At.X, .int .i64 y.Thing.At.Y, .int .i64 y.Thing.F.a0.N, .string y.Thing.F.a0.Text, .int .i64 y.Thing.F.a1.N, .string y.Thing.F.a1.Text, .int .i64 y.Thing.F.a2.N, .string y.Thing.F.a2.Text, .int .i64 y.Thing.F.a3.N, .string y.Thing.F.a3.Text]), by kernel_rfl, by kernel_rfl, Thing_run x.Thing y.Thing _⟩
 ·exact ⟨by simp, (.agg #[.int .i64 x.Delta.ID, .int .u8 x.Delta.Mask, .int .i64 x.Delta.At.X, .int .i64 x.Delta.At.Y, .int .i64 x.Delta.F.a0.N, .string x.Delta.F.a0.Text, .int .i64 x.Delta.F.a1.N, .string x.Delta.F.a1.Text, .int .i64 x.Delta.F.a2.N, .string x.Delta.F.a2.Text, .int .i64 x.Delta.F.a3.N, .string x.Delta.F.a3.Text]), (.agg #[.int .i64 y.Delta.ID, .int .u8 y.Delta.Mask, .int .i64 y.Delta.At.X, .int .i64 y.Delta.At.Y, .int .i64 y.Delta.F.a0.N, .string y.Delta.F.a0.Text, .int .i64 y.Delta.F.a1.N, .string y.Delta.F.a1.Text, .int .i64 y.Delta.F.a2.N, .string y.Delta.F.a2.Text, .int .i64 y.Delta.F.a3.N, .string y.Delta.F.a3.Text]), by kernel_rfl, by kernel_rfl, Delta_run x.Delta y.Delta _⟩
theorem Event_eql (x y : Event) (cx cy : Bool) : prun Try.prog ((Prim.bin .eql 67 cx cy).sem [.agg #[.int .i64 x.Kind, .int .i64 x.ID, .int .i64 x.Thing.ID, .int .i64 x.Thing.At.X, .int .i64 x.Thing.At.Y, .int .i64 x.Thing.F.a0.N, .string x.Thing.F.a0.Text, .int .i64 x.Thing.F.a1.N, .string x.Thing.F.a1.Text, .int .i64 x.Thing.F.a2.N, .string x.Thing.F.a2.Text, .int .i64 x.Thing.F.a3.N, .string x.Thing.F.a3.Text, .int .i64 x.Delta.ID, .int .u8 x.Delta.Mask, .int .i64 x.Delta.At.X, .int .i64 x.Delta.At.Y, .int .i64 x.Delta.F.a0.N, .string x.Delta.F.a0.Text, .int .i64 x.Delta.F.a1.N, .string x.Delta.F.a1.Text, .int .i64 x.Delta.F.a2.N, .string x.Delta.F.a2.Text, .int .i64 x.Delta.F.a3.N, .string x.Delta.F.a3.Text], .agg #[.int .i64 y.Kind, .int .i64 y.ID, .int .i64 y.Thing.ID, .int .i64 y.Thing.At.X, .int .i64 y.Thing.At.Y, .int .i64 y.Thing.F.a0.N, .string y.Thing.F.a0.Text, .int .i64 y.Thing.F.a1.N, .string y.Thing.F.a1.Text, .int .i64 y.Thing.F.a2.N, .string y.Thing.F.a2.Text, .int .i64 y.Thing.F.a3.N, .string y.Thing.F.a3.Text, .int .i64 y.Delta.ID, .int .u8 y.Delta.Mask, .int .i64 y.Delta.At.X, .int .i64 y.Delta.At.Y, .int .i64 y.Delta.F.a0.N, .string y.Delta.F.a0.Text, .int .i64 y.Delta.F.a1.N, .string y.Delta.F.a1.Text, .int .i64 y.Delta.F.a2.N, .string y.Delta.F.a2.Text, .int .i64 y.Delta.F.a3.N, .string y.Delta.F.a3.Text]]) = some (.bool (Event.eqb x y)) := pr_eqst (Event_run x y 9995) (by kernel_rfl) cx cy
theorem Event_eqn (x y : Event) (cx cy : Bool) : prun Try.prog ((Prim.bin .neq 67 cx cy).sem [.agg #[.int .i64 x.Kind, .int .i64 x.ID, .int .i64 x.Thing.ID, .int .i64 x.Thing.At.X, .int .i64 x.Thing.At.Y, .int .i64 x.Thing.F.a0.N, .string x.Thing.F.a0.Text, .int .i64 x.Thing.F.a1.N, .string x.Thing.F.a1.Text, .int .i64 x.Thing.F.a2.N, .string x.Thing.F.a2.Text, .int .i64 x.Thing.F.a3.N, .string x.Thing.F.a3.Text, .int .i64 x.Delta.ID, .int .u8 x.Delta.Mask, .int .i64 x.Delta.At.X, .int .i64 x.Delta.At.Y, .int .i64 x.Delta.F.a0.N, .string x.Delta.F.a0.Text, .int .i64 x.Delta.F.a1.N, .string x.Delta.F.a1.Text, .int .i64 x.Delta.F.a2.N, .string x.Delta.F.a2.Text, .int .i64 x.Delta.F.a3.N, .string x.Delta.F.a3.Text], .agg #[.int .i64 y.Kind, .int .i64 y.ID, .int .i64 y.Thing.ID, .int .i64 y.Thing.At.X, .int .i64 y.Thing.At.Y, .int .i64 y.Thing.F.a0.N, .string y.Thing.F.a0.Text, .int .i64 y.Thing.F.a1.N, .string y.Thing.F.a1.Text, .int .i64 y.Thing.F.a2.N, .string y.Thing.F.a2.Text, .int .i64 y.Thing.F.a3.N, .string y.Thing.F.a3.Text, .int .i64 y.Delta.ID, .int .u8 y.Delta.Mask, .int .i64 y.Delta.At.X, .int .i64 y.Delta.At.Y, .int .i64 y.Delta.F.a0.N, .string y.Delta.F.a0.Text, .int .i64 y.Delta.F.a1.N, .string y.Delta.F.a1.Text, .int .i64 y.Delta.F.a2.N, .string y.Delta.F.a2.Text, .int .i64 y.Delta.F.a3.N, .string y.Delta.F.a3.Text]]) = some (.bool (!(Event.eqb x y))) := pr_nest (Event_run x y 9995) (by kernel_rfl) cx cy
abbrev zo (d : Nat) (op : POp) : POper := ⟨some d, op, none, []⟩
abbrev lj (n : Int) : Lf := li .i64 n
abbrev be : ByteArray := ByteArray.empty
abbrev qj (n : Int) : PV := .one (li .i64 n)
abbrev qb (b : Bool) : PV := .one (lb b)
abbrev qs (s : ByteArray) : PV := .one (ls s)
abbrev qp (k o : Nat) : PV := .one (.ptr k o)
instance (n : Nat) : OfNat Operand n := ⟨.tmp n⟩
abbrev kk (n : Int) : Operand := .const (.int .i64 n)
abbrev kf : Operand := .const (.bool false)
abbrev kt : Operand := .const (.bool true)
abbrev zf (d g : Nat) (op : POp) : POper := ⟨some d, op, some (g, false), []⟩
abbrev zt (d g : Nat) (op : POp) : POper := ⟨some d, op, some (g, true), []⟩
abbrev za (d x k o : Nat) (op : POp) : POper := ⟨some d, op, none, [(x, .at_ k o)]⟩
abbrev zs (op : POp) : POper := ⟨none, op, none, []⟩
abbrev zn (op : POp) (h : List (Nat × Hint)) : POper := ⟨none, op, none, h⟩
abbrev rg (o : List POper) : PCode := .region none false o
abbrev rh (o : List POper) : PCode := .region none true o
abbrev sq (a b : PCode) : PCode := .seq a b
abbrev rt : PCode := .ret
abbrev zM (d : Nat) (x : Operand) : POper := ⟨some d, .mv x, none, []⟩
abbrev zL (d : Nat) (x : Operand) : POper := ⟨some d, .load false 1 x, none, []⟩
abbrev zG (d o : Nat) (x : Operand) : POper := ⟨some d, .faddr o x, none, []⟩
abbrev zX (d : Nat) (x : Operand) (i : Nat) : POper := ⟨some d, .ext x i, none, []⟩
abbrev zK (d : Nat) (o : BinOp) (t : Nat) (x : Operand) (n : Int) : POper := ⟨some d, .prim (.bin o t false true) [x, kk n], none, []⟩
abbrev zB (d : Nat) (o : BinOp) (t : Nat) (x y : Operand) : POper := ⟨some d, .prim (.bin o t false false) [x, y], none, []⟩
abbrev zi (d x : Nat) (op : POp) : POper := ⟨some d, op, none, [(x, .imm)]⟩
abbrev zj (d x y : Nat) (op : POp) : POper := ⟨some d, op, none, [(x, .imm), (y, .imm)]⟩
abbrev ki : Value := .int .i64 0
abbrev ks : Value := .string ByteArray.empty
abbrev kl : Value := .slice none 0 0
def hg (l : List (List Nat × Hint)) (x : Nat) : Option Hint := (l.find? fun p => p.1.contains x).map (·.2)
abbrev tz : PV := .tup []
abbrev iw : IntKind → Int → Int := IntKind.wrap
abbrev w0 (X : Delta) : List (Nat × PV) := [(1, qp 1 0), (40, .agg (A4_Field.cells X.F)), (41, qj 4)]
abbrev w1 (X : Delta) : List (Nat × PV) := [(1, qp 1 0), (40, .agg (A4_Field.cells X.F)), (41, qj 3)]
abbrev w2 (X : Delta) : List (Nat × PV) := [(1, qp 1 0), (40, .agg (A4_Field.cells X.F)), (41, qj 2)]
abbrev w3 (X : Delta) : List (Nat × PV) := [(1, qp 1 0), (40, .agg (A4_Field.cells X.F)), (41, qj 1)]
abbrev w4 (X : Delta) : List (Nat × PV) := [(2, qp 2 0), (3, qp 3 0), (4, qp 4 0), (15, .agg (A4_Field.cells X.F)), (16, qj 4)]
abbrev w5 (X : Delta) : List (Nat × PV) := [(2, qp 2 0), (3, qp 3 0), (4, qp 4 0), (15, .agg (A4_Field.cells X.F)), (16, qj 3)]
abbrev w6 (X : Delta) : List (Nat × PV) := [(2, qp 2 0), (3, qp 3 0), (4, qp 4 0), (15, .agg (A4_Field.cells X.F)), (16, qj 2)]
abbrev w7 (X : Delta) : List (Nat × PV) := [(2, qp 2 0), (3, qp 3 0), (4, qp 4 0), (15, .agg (A4_Field.cells X.F)), (16, qj 1)]
abbrev W0 (X0 : Thing) (X1 : Delta) : List (Nat × Option Ob) := [(2, some (.cells (Thing.cells X0))), (3, some (.cells (Delta.cells X1))), (4, some (.cells [lj 0, lj 0, lj 0, lj 0, ls be, lj 0, ls be, lj 0, ls be, lj 0, ls be]))]
abbrev W1 (X0 : (List Event)) (X1 : Int) (X2 : ((List Thing) × Bool)) : List PV := [.one (.osl 30 (0 + 1) (((X0 ++ [(Event.mk 3 (iw .i64 X1) (Thing.mk 0 (Point.mk 0 0) (A4.mk (Field.mk 0 be) (Field.mk 0 be) (Field.mk 0 be) (Field.mk 0 be))) (Delta.mk 0 0 (Point.mk 0 0) (A4.mk (Field.mk 0 be) (Field.mk 0 be) (Field.mk 0 be) (Field.mk 0 be))))])).length + 1) ((X2.1).length)), qb X2.2]
abbrev W2 (X0 : (List Thing)) : List (Nat × Option Ob) := [(300000, some (.arr 28 Thing.cod.sz 0 (X0).length (getOf Thing.cod X0)))]
abbrev W3 (X0 : Delta) : List (Nat × Option Ob) := [(1, some (.cells (Delta.cells X0)))]
abbrev W4 (X0 : Int) : List (Nat × Option Ob) := [(30, some (.arr 67 Event.cod.sz 0 ([(Event.mk 1 (iw .i64 X0) (Thing.mk (iw .i64 X0) (Point.mk 0 0) (A4.mk (Field.mk 0 be) (Field.mk 0 be) (Field.mk 0 be) (Field.mk 0 be))) (Delta.mk 0 0 (Point.mk 0 0) (A4.mk (Field.mk 0 be) (Field.mk 0 be) (Field.mk 0 be) (Field.mk 0 be))))]).length (getOf Event.cod [(Event.mk 1 (iw .i64 X0) (Thing.mk (iw .i64 X0) (Point.mk 0 0) (A4.mk (Field.mk 0 be) (Field.mk 0 be) (Field.mk 0 be) (Field.mk 0 be))) (Delta.mk 0 0 (Point.mk 0 0) (A4.mk (Field.mk 0 be) (Field.mk 0 be) (Field.mk 0 be) (Field.mk 0 be))))])))]
abbrev W5 : List Nat := [300000, 300001, 300002, 300003, 300004, 300005, 300006, 300007]
abbrev W6 (X0 : (List Event)) (X1 : ((List Thing) × Bool)) : List (Nat × Option Ob) := [(30, some (.arr 67 Event.cod.sz 0 (X0).length (getOf Event.cod X0))), (300000, some (.arr 28 Thing.cod.sz 0 (X1.1).length (getOf Thing.cod X1.1)))]
abbrev W7 : List (Nat × PV) := [(4, qb false), (134, qb false), (133, tz), (132, tz), (131, qb false), (130, qb false), (129, tz), (128, tz), (127, tz), (126, qb false), (125, qb false), (124, tz), (123, qb false), (122, qb false), (121, tz), (120, tz), (119, tz), (118, qb false), (117, qb false), (116, tz), (115, qb false), (114, qb false)]
abbrev W8 (X0 : (List Event)) (X1 : Int) : List PV := [.one (vw Thing.cod ([] : List Thing)), .one (vw Event.cod (X0 ++ [(Event.mk 3 (iw .i64 X1) (Thing.mk 0 (Point.mk 0 0) (A4.mk (Field.mk 0 be) (Field.mk 0 be) (Field.mk 0 be) (Field.mk 0 be))) (Delta.mk 0 0 (Point.mk 0 0) (A4.mk (Field.mk 0 be) (Field.mk 0 be) (Field.mk 0 be) (Field.mk 0 be))))]))]
abbrev W9 (X0 : (List Event)) (X1 : Int) (X2 : Event) : List PV := [.one (vw Thing.cod ([] : List Thing)), .one (vw Event.cod ((X0 ++ [(Event.mk 3 (iw .i64 X1) (Thing.mk 0 (Point.mk 0 0) (A4.mk (Field.mk 0 be) (Field.mk 0 be) (Field.mk 0 be) (Field.mk 0 be))) (Delta.mk 0 0 (Point.mk 0 0) (A4.mk (Field.mk 0 be) (Field.mk 0 be) (Field.mk 0 be) (Field.mk 0 be))))]) ++ [X2]))]
abbrev W10 (X0 : ((List Thing) × Bool)) : List PV := [.one (.osl 1000000 0 0 (X0.1).length), qb X0.2]
abbrev W11 (X0 : ((List Thing) × Bool)) : List (Nat × Option Ob) := [(300001, some (.arr 28 Thing.cod.sz 0 (X0.1).length (getOf Thing.cod X0.1)))]
abbrev W12 : List (Nat × PV) := [(59, qb false), (58, qb false), (57, tz), (56, tz), (55, tz)]
abbrev W13 (X0 : ((List Thing) × Bool)) : List PV := [.one (.osl 300001 0 0 (X0.1).length), qb X0.2]
abbrev W14 (X0 : Delta) : List Lf := [lj X0.F.a3.N, ls X0.F.a3.Text]
abbrev W15 (X0 : Delta) : List Lf := [lj X0.F.a2.N, ls X0.F.a2.Text]
abbrev W16 (X0 : Delta) : List Lf := [lj X0.F.a1.N, ls X0.F.a1.Text]
abbrev W17 (X0 : Delta) : List Lf := [lj X0.F.a0.N, ls X0.F.a0.Text]
abbrev W18 (X0 : Int) : List Lf := [lj (iw .i64 X0), lj 0, lj 0, lj 0, ls be, lj 0, ls be, lj 0, ls be, lj 0, ls be]
abbrev W19 (X0 : Thing) (X1 : Delta) : List Lf := [lj X0.ID, lj X0.At.X, lj X0.At.Y, lj X0.F.a0.N, ls X0.F.a0.Text, lj X0.F.a1.N, ls X0.F.a1.Text, lj X0.F.a2.N, ls X0.F.a2.Text, lj X1.F.a3.N, ls X1.F.a3.Text]
abbrev W20 (X0 : Thing) (X1 : Delta) : List Lf := [lj X0.ID, lj X0.At.X, lj X0.At.Y, lj X0.F.a0.N, ls X0.F.a0.Text, lj X0.F.a1.N, ls X0.F.a1.Text, lj X1.F.a2.N, ls X1.F.a2.Text, lj X0.F.a3.N, ls X0.F.a3.Text]
abbrev W21 (X0 : Thing) (X1 : Delta) : List Lf := [lj X0.ID, lj X0.At.X, lj X0.At.Y, lj X0.F.a0.N, ls X0.F.a0.Text, lj X1.F.a1.N, ls X1.F.a1.Text, lj X0.F.a2.N, ls X0.F.a2.Text, lj X0.F.a3.N, ls X0.F.a3.Text]
abbrev W22 (X0 : Thing) (X1 : Delta) : List Lf := [lj X0.ID, lj X0.At.X, lj X0.At.Y, lj X1.F.a0.N, ls X1.F.a0.Text, lj X0.F.a1.N, ls X0.F.a1.Text, lj X0.F.a2.N, ls X0.F.a2.Text, lj X0.F.a3.N, ls X0.F.a3.Text]
abbrev W23 (X0 : Thing) (X1 : Delta) : List Lf := [lj X0.ID, lj X1.At.X, lj X1.At.Y, lj X0.F.a0.N, ls X0.F.a0.Text, lj X0.F.a1.N, ls X0.F.a1.Text, lj X0.F.a2.N, ls X0.F.a2.Text, lj X0.F.a3.N, ls X0.F.a3.Text]
abbrev W24 : List (Nat × PV) := [(2, qb false), (1, qp 1 0)]
abbrev W25 : List Nat := [58, 57, 56, 55, 54, 53, 52, 51, 50, 49]
abbrev W26 (X0 : ((List Thing) × Bool)) : List (Nat × Option Ob) := [(300000, some (.arr 28 Thing.cod.sz 0 (X0.1).length (getOf Thing.cod X0.1)))]
abbrev W27 : List Nat := [30, 300000, 300001, 300002, 300003, 300004, 300005, 300006, 300007, 399990, 399991]
abbrev W28 (X0 : Thing) : List PV := [.one (vw Field.cod [X0.F.a0, X0.F.a1, X0.F.a2, X0.F.a3]), .one (.val (.func (.func 69) #[] #[]))]
abbrev W29 (X0 : (List Thing)) : List (Nat × PV) := [(5, qb false), (4, .one (.osl 300000 0 0 (X0).length))]
abbrev W30 : List Lf := [lj 0, lj 0, lj 0, lj 0, ls be, lj 0, ls be, lj 0, ls be, lj 0, ls be]
abbrev ow0 : TypeId → List (Nat × TypeId × Nat) := fun t => match t with
  | 96 => [(1, 5, 1)]
  | _ => []
abbrev tc1 : TypeId → Bool := fun t => match t with
  | 96 => true
  | _ => false
end Go.Proofs.Ytobeamaaifgllaa
