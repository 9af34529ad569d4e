/- No condition. -/
import Derived.Test.YtpjejnefegdoeaaGreatProg
import Derived.Test.YtpjejnefegdoeaaGreatRxZ
import Derived.Test.YtpjejnefegdoeaaGreatRxWr
namespace Go.Proofs.YtpjejnefegdoeaaGreat
open Go Go.Rx
set_option maxRecDepth 100000
set_option linter.unusedVariables false
set_option linter.unusedSimpArgs false
set_option linter.unnecessarySimpa false
set_option linter.unnecessarySimpa false
set_option linter.unnecessarySimpa false
structure A4 (α : Type) where
 (a0 a1 a2 a3 : α)
 deriving DecidableEq
structure Field where
 N : Int
 Text : ByteArray
 deriving DecidableEq
def Field.cells (x : Field) : List Lf := [li .i64 x.N, ls x.Text]
def Field.cod : Cod Field := ⟨2, Field.cells⟩
structure Point where
 X : Int
 Y : Int
 deriving DecidableEq
def Point.cells (x : Point) : List Lf := [li .i64 x.X, li .i64 x.Y]
def Point.cod : Cod Point := ⟨2, Point.cells⟩
structure Rect where
 X0 : Int
 Y0 : Int
 X1 : Int
 Y1 : Int
 deriving DecidableEq
def Rect.cells (x : Rect) : List Lf := [li .i64 x.X0, li .i64 x.Y0, li .i64 x.X1, li .i64 x.Y1]
def Rect.cod : Cod Rect := ⟨4, Rect.cells⟩
structure Command where
 Kind : Int
 ID : Int
 Which : Int
 To : Int
 At : Point
 F : (A4 Field)
 Value : Field
 Client : Int
 Session : Int
 Rect : Rect
 deriving DecidableEq
def Command.cells (x : Command) : List Lf := [li .i64 x.Kind, li .i64 x.ID, li .i64 x.Which, li .i64 x.To, li .i64 x.At.X, li .i64 x.At.Y, li .i64 x.F.a0.N, ls x.F.a0.Text, li .i64 x.F.a1.N, ls x.F.a1.Text, li .i64 x.F.a2.N, ls x.F.a2.Text, li .i64 x.F.a3.N, ls x.F.a3.Text, li .i64 x.Value.N, ls x.Value.Text, li .i64 x.Client, li .i64 x.Session, li .i64 x.Rect.X0, li .i64 x.Rect.Y0, li .i64 x.Rect.X1, li .i64 x.Rect.Y1]
def Command.cod : Cod Command := ⟨22, Command.cells⟩
structure Hand where
 Cell : Int
 To : Int
 deriving DecidableEq
def Hand.cells (x : Hand) : List Lf := [li .i64 x.Cell, li .i64 x.To]
def Hand.cod : Cod Hand := ⟨2, Hand.cells⟩
structure Thing where
 ID : Int
 At : Point
 F : (A4 Field)
 deriving DecidableEq
def Thing.cells (x : Thing) : List Lf := [li .i64 x.ID, li .i64 x.At.X, li .i64 x.At.Y, li .i64 x.F.a0.N, ls x.F.a0.Text, li .i64 x.F.a1.N, ls x.F.a1.Text, li .i64 x.F.a2.N, ls x.F.a2.Text, li .i64 x.F.a3.N, ls x.F.a3.Text]
def Thing.cod : Cod Thing := ⟨11, Thing.cells⟩
structure Note where
 From : Int
 Beat : Int
 Moved : (List Thing)
 Hands : (List Hand)
 Given : (List Thing)
 Watch : (List Command)
 deriving DecidableEq
def Note.cells (x : Note) : List Lf := [li .i64 x.From, li .i64 x.Beat, vw Thing.cod x.Moved, vw Hand.cod x.Hands, vw Thing.cod x.Given, vw Command.cod x.Watch]
def Note.cod : Cod Note := ⟨6, Note.cells⟩
structure Delta where
 ID : Int
 Mask : Int
 At : Point
 F : (A4 Field)
 deriving DecidableEq
def Delta.cells (x : Delta) : List Lf := [li .i64 x.ID, li .u8 x.Mask, li .i64 x.At.X, li .i64 x.At.Y, li .i64 x.F.a0.N, ls x.F.a0.Text, li .i64 x.F.a1.N, ls x.F.a1.Text, li .i64 x.F.a2.N, ls x.F.a2.Text, li .i64 x.F.a3.N, ls x.F.a3.Text]
def Delta.cod : Cod Delta := ⟨12, Delta.cells⟩
structure Reader where
 s : ByteArray
 at_ : Int
 fails : Bool
 deriving DecidableEq
def Reader.cells (x : Reader) : List Lf := [ls x.s, li .i64 x.at_, lb x.fails]
def Reader.cod : Cod Reader := ⟨3, Reader.cells⟩
structure Reader_fields where
 s : ByteArray
 at_ : Int
 e : Int
 deriving DecidableEq
def Reader_fields.cells (x : Reader_fields) : List Lf := [ls x.s, li .i64 x.at_, li .i64 x.e]
def Reader_fields.cod : Cod Reader_fields := ⟨3, Reader_fields.cells⟩
def A4_Field.cells (x : (A4 Field)) : List Lf := [li .i64 x.a0.N, ls x.a0.Text, li .i64 x.a1.N, ls x.a1.Text, li .i64 x.a2.N, ls x.a2.Text, li .i64 x.a3.N, ls x.a3.Text]
def Hand.eqb (x y : Hand) : Bool := [x.Cell == y.Cell, x.To == y.To].all id
theorem Hand_run (x y : Hand) (d : Nat) : prun Tryz.prog (Op.equalIn (d + 2) 40 (.agg #[.int .i64 x.Cell, .int .i64 x.To]) (.agg #[.int .i64 y.Cell, .int .i64 y.To])) = some (Hand.eqb x y) := by
 refine (eqst_run Tryz.underlying40 (by kernel_rfl) (d + 1) [(_, x.Cell == y.Cell), (_, x.To == y.To)] rfl ?_).trans (by kernel_rfl)
 intro p hp
 simp only [List.mem_cons, List.not_mem_nil, or_false] at hp
 rcases hp with rfl | rfl
 ·exact ⟨by simp, (.int .i64 x.Cell), (.int .i64 y.Cell), by kernel_rfl, by kernel_rfl, eqk_run (k := .i64) Tryz.underlying3 _ _ _ _⟩
 ·exact ⟨by simp, (.int .i64 x.To), (.int .i64 y.To), by kernel_rfl, by kernel_rfl, eqk_run (k := .i64) Tryz.underlying3 _ _ _ _⟩
theorem Hand_eql (x y : Hand) (cx cy : Bool) : prun Tryz.prog ((Prim.bin .eql 40 cx cy).sem [.agg #[.int .i64 x.Cell, .int .i64 x.To], .agg #[.int .i64 y.Cell, .int .i64 y.To]]) = some (.bool (Hand.eqb x y)) := pr_eqst (Hand_run x y 9998) (by kernel_rfl) cx cy
theorem Hand_eqn (x y : Hand) (cx cy : Bool) : prun Tryz.prog ((Prim.bin .neq 40 cx cy).sem [.agg #[.int .i64 x.Cell, .int .i64 x.To], .agg #[.int .i64 y.Cell, .int .i64 y.To]]) = some (.bool (!(Hand.eqb x y))) := pr_nest (Hand_run x y 9998) (by kernel_rfl) cx cy
def Point.eqb (x y : Point) : Bool := [x.X == y.X, x.Y == y.Y].all id
theorem Point_run (x y : Point) (d : Nat) : prun Tryz.prog (Op.equalIn (d + 2) 42 (.agg #[.int .i64 x.X, .int .i64 x.Y]) (.agg #[.int .i64 y.X, .int .i64 y.Y])) = some (Point.eqb x y) := by
 refine (eqst_run Tryz.underlying42 (by kernel_rfl) (d + 1) [(_, x.X == y.X), (_, x.Y == y.Y)] rfl ?_).trans (by kernel_rfl)
 intro p hp
 simp only [List.mem_cons, List.not_mem_nil, or_false] at hp
 rcases hp with rfl | rfl
 ·exact ⟨by simp, (.int .i64 x.X), (.int .i64 y.X), by kernel_rfl, by kernel_rfl, eqk_run (k := .i64) Tryz.underlying3 _ _ _ _⟩
 ·exact ⟨by simp, (.int .i64 x.Y), (.int .i64 y.Y), by kernel_rfl, by kernel_rfl, eqk_run (k := .i64) Tryz.underlying3 _ _ _ _⟩
theorem Point_eql (x y : Point) (cx cy : Bool) : prun Tryz.prog ((Prim.bin .eql 42 cx cy).sem [.agg #[.int .i64 x.X, .int .i64 x.Y], .agg #[.int .i64 y.X, .int .i64 y.Y]]) = some (.bool (Point.eqb x y)) := pr_eqst (Point_run x y 9998) (by kernel_rfl) cx cy
theorem Point_eqn (x y : Point) (cx cy : Bool) : prun Tryz.prog ((Prim.bin .neq 42 cx cy).sem [.agg #[.int .i64 x.X, .int .i64 x.Y], .agg #[.int .i64 y.X, .int .i64 y.Y]]) = some (.bool (!(Point.eqb x y))) := pr_nest (Point_run x y 9998) (by kernel_rfl) cx cy
def Field.eqb (x y : Field) : Bool := [x.N == y.N, x.Text == y.Text].all id
theorem Field_run (x y : Field) (d : Nat) : prun Tryz.prog (Op.equalIn (d + 2) 44 (.agg #[.int .i64 x.N, .string x.Text]) (.agg #[.int .i64 y.N, .string y.Text])) = some (Field.eqb x y) := by
 refine (eqst_run Tryz.underlying44 (by kernel_rfl) (d + 1) [(_, x.N == y.N), (_, x.Text == y.Text)] rfl ?_).trans (by kernel_rfl)
 intro p hp
 simp only [List.mem_cons, List.not_mem_nil, or_false] at hp
 rcases hp with rfl | rfl
 ·exact ⟨by simp, (.int .i64 x.N), (.int .i64 y.N), by kernel_rfl, by kernel_rfl, eqk_run (k := .i64) Tryz.underlying2 _ _ _ _⟩
 ·exact ⟨by simp, (.string x.Text), (.string y.Text), by kernel_rfl, by kernel_rfl, eqstr_run Tryz.underlying9 _ _ _⟩
theorem Field_eql (x y : Field) (cx cy : Bool) : prun Tryz.prog ((Prim.bin .eql 44 cx cy).sem [.agg #[.int .i64 x.N, .string x.Text], .agg #[.int .i64 y.N, .string y.Text]]) = some (.bool (Field.eqb x y)) := pr_eqst (Field_run x y 9998) (by kernel_rfl) cx cy
theorem Field_eqn (x y : Field) (cx cy : Bool) : prun Tryz.prog ((Prim.bin .neq 44 cx cy).sem [.agg #[.int .i64 x.N, .string x.Text], .agg #[.int .i64 y.N, .string y.Text]]) = some (.bool (!(Field.eqb x y))) := pr_nest (Field_run x y 9998) (by kernel_rfl) cx cy
def A4_Field.eqb (x y : (A4 Field)) : Bool := [Field.eqb x.a0 y.a0, Field.eqb x.a1 y.a1, Field.eqb x.a2 y.a2, Field.eqb x.a3 y.a3].all id
theorem A4_Field_run (x y : (A4 Field)) (d : Nat) : prun Tryz.prog (Op.equalIn (d + 3) 45 (.agg #[.int .i64 x.a0.N, .string x.a0.Text, .int .i64 x.a1.N, .string x.a1.Text, .int .i64 x.a2.N, .string x.a2.Text, .int .i64 x.a3.N, .string x.a3.Text]) (.agg #[.int .i64 y.a0.N, .string y.a0.Text, .int .i64 y.a1.N, .string y.a1.Text, .int .i64 y.a2.N, .string y.a2.Text, .int .i64 y.a3.N, .string y.a3.Text])) = some (A4_Field.eqb x y) := by
 refine (eqar_run (e := 44) (n := 4) (sz := 2) Tryz.underlying45 (by kernel_rfl) (d + 2) [Field.eqb x.a0 y.a0, Field.eqb x.a1 y.a1, Field.eqb x.a2 y.a2, Field.eqb x.a3 y.a3] rfl ?_).trans (by kernel_rfl)
 intro i hi
 match i, hi with
 | 0, _ => exact ⟨(.agg #[.int .i64 x.a0.N, .string x.a0.Text]), (.agg #[.int .i64 y.a0.N, .string y.a0.Text]), by kernel_rfl, by kernel_rfl, Field_run x.a0 y.a0 _⟩
 | 1, _ => exact ⟨(.agg #[.int .i64 x.a1.N, .string x.a1.Text]), (.agg #[.int .i64 y.a1.N, .string y.a1.Text]), by kernel_rfl, by kernel_rfl, Field_run x.a1 y.a1 _⟩
 | 2, _ => exact ⟨(.agg #[.int .i64 x.a2.N, .string x.a2.Text]), (.agg #[.int .i64 y.a2.N, .string y.a2.Text]), by kernel_rfl, by kernel_rfl, Field_run x.a2 y.a2 _⟩
 | 3, _ => exact ⟨(.agg #[.int .i64 x.a3.N, .string x.a3.Text]), (.agg #[.int .i64 y.a3.N, .string y.a3.Text]), by kernel_rfl, by kernel_rfl, Field_run x.a3 y.a3 _⟩
theorem A4_Field_eql (x y : (A4 Field)) (cx cy : Bool) : prun Tryz.prog ((Prim.bin .eql 45 cx cy).sem [.agg #[.int .i64 x.a0.N, .string x.a0.Text, .int .i64 x.a1.N, .string x.a1.Text, .int .i64 x.a2.N, .string x.a2.Text, .int .i64 x.a3.N, .string x.a3.Text], .agg #[.int .i64 y.a0.N, .string y.a0.Text, .int .i64 y.a1.N, .string y.a1.Text, .int .i64 y.a2.N, .string y.a2.Text, .int .i64 y.a3.N, .string y.a3.Text]]) = some (.bool (A4_Field.eqb x y)) := pr_eqst (A4_Field_run x y 9997) (by kernel_rfl) cx cy
theorem A4_Field_eqn (x y : (A4 Field)) (cx cy : Bool) : prun Tryz.prog ((Prim.bin .neq 45 cx cy).sem [.agg #[.int .i64 x.a0.N, .string x.a0.Text, .int .i64 x.a1.N, .string x.a1.Text, .int .i64 x.a2.N, .string x.a2.Text, .int .i64 x.a3.N, .string x.a3.Text], .agg #[.int .i64 y.a0.N, .string y.a0.Text, .int .i64 y.a1.N, .string y.a1.Text, .int .i64 y.a2.N, .string y.a2.Text, .int .i64 y.a3.N, .string y.a3.Text]]) = some (.bool (!(A4_Field.eqb x y))) := pr_nest (A4_Field_run x y 9997) (by kernel_rfl) cx cy
def Thing.eqb (x y : Thing) : Bool := [x.ID == y.ID, Point.eqb x.At y.At, A4_Field.eqb x.F y.F].all id
theorem Thing_run (x y : Thing) (d : Nat) : prun Tryz.prog (Op.equalIn (d + 4) 47 (.agg #[.int .i64 x.ID, .int .i64 x.At.X, .int .i64 x.At.Y, .int .i64 x.F.a0.N, .string x.F.a0.Text, .int .i64 x.F.a1.N, .string x.F.a1.Text, .int .i64 x.F.a2.N, .string x.F.a2.Text, .int .i64 x.F.a3.N, .string x.F.a3.Text]) (.agg #[.int .i64 y.ID, .int .i64 y.At.X, .int .i64 y.At.Y, .int .i64 y.F.a0.N, .string y.F.a0.Text, .int .i64 y.F.a1.N, .string y.F.a1.Text, .int .i64 y.F.a2.N, .string y.F.a2.Text, .int .i64 y.F.a3.N, .string y.F.a3.Text])) = some (Thing.eqb x y) := by
 refine (eqst_run Tryz.underlying47 (by kernel_rfl) (d + 3) [(_, x.ID == y.ID), (_, Point.eqb x.At y.At), (_, A4_Field.eqb x.F y.F)] rfl ?_).trans (by kernel_rfl)
 intro p hp
 simp only [List.mem_cons, List.not_mem_nil, or_false] at hp
 rcases hp with rfl | rfl | rfl
 ·exact ⟨by simp, (.int .i64 x.ID), (.int .i64 y.ID), by kernel_rfl, by kernel_rfl, eqk_run (k := .i64) Tryz.underlying3 _ _ _ _⟩
 ·exact ⟨by simp, (.agg #[.int .i64 x.At.X, .int .i64 x.At.Y]), (.agg #[.int .i64 y.At.X, .int .i64 y.At.Y]), by kernel_rfl, by kernel_rfl, Point_run x.At y.At _⟩
 ·exact ⟨by simp, (.agg #[.int .i64 x.F.a0.N, .string x.F.a0.Text, .int .i64 x.F.a1.N, .string x.F.a1.Text, .int .i64 x.F.a2.N, .string x.F.a2.Text, .int .i64 x.F.a3.N, .string x.F.a3.Text]), (.agg #[.int .i64 y.F.a0.N, .string y.F.a0.Text, .int .i64 y.F.a1.N, .string y.F.a1.Text, .int .i64 y.F.a2.N, .string y.F.a2.Text, .int .i64 y.F.a3.N, .string y.F.a3.Text]), by kernel_rfl, by kernel_rfl, A4_Field_run x.F y.F _⟩
theorem Thing_eql (x y : Thing) (cx cy : Bool) : prun Tryz.prog ((Prim.bin .eql 47 cx cy).sem [.agg #[.int .i64 x.ID, .int .i64 x.At.X, .int .i64 x.At.Y, .int .i64 x.F.a0.N, .string x.F.a0.Text, .int .i64 x.F.a1.N, .string x.F.a1.Text, .int .i64 x.F.a2.N, .string x.F.a2.Text, .int .i64 x.F.a3.N, .string x.F.a3.Text], .agg #[.int .i64 y.ID, .int .i64 y.At.X, .int .i64 y.At.Y, .int .i64 y.F.a0.N, .string y.F.a0.Text, .int .i64 y.F.a1.N, .string y.F.a1.Text, .int .i64 y.F.a2.N, .string y.F.a2.Text, .int .i64 y.F.a3.N, .string y.F.a3.Text]]) = some (.bool (Thing.eqb x y)) := pr_eqst (Thing_run x y 9996) (by kernel_rfl) cx cy
theorem Thing_eqn (x y : Thing) (cx cy : Bool) : prun Tryz.prog ((Prim.bin .neq 47 cx cy).sem [.agg #[.int .i64 x.ID, .int .i64 x.At.X, .int .i64 x.At.Y, .int .i64 x.F.a0.N, .string x.F.a0.Text, .int .i64 x.F.a1.N, .string x.F.a1.Text, .int .i64 x.F.a2.N, .string x.F.a2.Text, .int .i64 x.F.a3.N, .string x.F.a3.Text], .agg #[.int .i64 y.ID, .int .i64 y.At.X, .int .i64 y.At.Y, .int .i64 y.F.a0.N, .string y.F.a0.Text, .int .i64 y.F.a1.N, .string y.F.a1.Text, .int .i64 y.F.a2.N, .string y.F.a2.Text, .int .i64 y.F.a3.N, .string y.F.a3.Text]]) = some (.bool (!(Thing.eqb x y))) := pr_nest (Thing_run x y 9996) (by kernel_rfl) cx cy
def Rect.eqb (x y : Rect) : Bool := [x.X0 == y.X0, x.Y0 == y.Y0, x.X1 == y.X1, x.Y1 == y.Y1].all id
theorem Rect_run (x y : Rect) (d : Nat) : prun Tryz.prog (Op.equalIn (d + 2) 54 (.agg #[.int .i64 x.X0, .int .i64 x.Y0, .int .i64 x.X1, .int .i64 x.Y1]) (.agg #[.int .i64 y.X0, .int .i64 y.Y0, .int .i64 y.X1, .int .i64 y.Y1])) = some (Rect.eqb x y) := by
 refine (eqst_run Tryz.underlying54 (by kernel_rfl) (d + 1) [(_, x.X0 == y.X0), (_, x.Y0 == y.Y0), (_, x.X1 == y.X1), (_, x.Y1 == y.Y1)] rfl ?_).trans (by kernel_rfl)
 intro p hp
 simp only [List.mem_cons, List.not_mem_nil, or_false] at hp
 rcases hp with rfl | rfl | rfl | rfl
 ·exact ⟨by simp, (.int .i64 x.X0), (.int .i64 y.X0), by kernel_rfl, by kernel_rfl, eqk_run (k := .i64) Tryz.underlying3 _ _ _ _⟩
 ·exact ⟨by simp, (.int .i64 x.Y0), (.int .i64 y.Y0), by kernel_rfl, by kernel_rfl, eqk_run (k := .i64) Tryz.underlying3 _ _ _ _⟩
 ·exact ⟨by simp, (.int .i64 x.X1), (.int .i64 y.X1), by kernel_rfl, by kernel_rfl, eqk_run (k := .i64) Tryz.underlying3 _ _ _ _⟩
 ·exact ⟨by simp, (.int .i64 x.Y1), (.int .i64 y.Y1), by kernel_rfl, by kernel_rfl, eqk_run (k := .i64) Tryz.underlying3 _ _ _ _⟩
theorem Rect_eql (x y : Rect) (cx cy : Bool) : prun Tryz.prog ((Prim.bin .eql 54 cx cy).sem [.agg #[.int .i64 x.X0, .int .i64 x.Y0, .int .i64 x.X1, .int .i64 x.Y1], .agg #[.int .i64 y.X0, .int .i64 y.Y0, .int .i64 y.X1, .int .i64 y.Y1]]) = some (.bool (Rect.eqb x y)) := pr_eqst (Rect_run x y 9998) (by kernel_rfl) cx cy
theorem Rect_eqn (x y : Rect) (cx cy : Bool) : prun Tryz.prog ((Prim.bin .neq 54 cx cy).sem [.agg #[.int .i64 x.X0, .int .i64 x.Y0, .int .i64 x.X1, .int .i64 x.Y1], .agg #[.int .i64 y.X0, .int .i64 y.Y0, .int .i64 y.X1, .int .i64 y.Y1]]) = some (.bool (!(Rect.eqb x y))) := pr_nest (Rect_run x y 9998) (by kernel_rfl) cx cy
def Command.eqb (x y : Command) : Bool := [x.Kind == y.Kind, x.ID == y.ID, x.Which == y.Which, x.To == y.To, Point.eqb x.At y.At, A4_Field.eqb x.F y.F, Field.eqb x.Value y.Value, x.Client == y.Client, x.Session == y.Session, Rect.eqb x.Rect y.Rect].all id
theorem Command_run (x y : Command) (d : Nat) : prun Tryz.prog (Op.equalIn (d + 4) 56 (.agg #[.int .i64 x.Kind, .int .i64 x.ID, .int .i64 x.Which, .int .i64 x.To, .int .i64 x.At.X, .int .i64 x.At.Y, .int .i64 x.F.a0.N, .string x.F.a0.Text, .int .i64 x.F.a1.N, .string x.F.a1.Text, .int .i64 x.F.a2.N, .string x.F.a2.Text, .int .i64 x.F.a3.N, .string x.F.a3.Text, .int .i64 x.Value.N, .string x.Value.Text, .int .i64 x.Client, .int .i64 x.Session, .int .i64 x.Rect.X0, .int .i64 x.Rect.Y0, .int .i64 x.Rect.X1, .int .i64 x.Rect.Y1]) (.agg #[.int .i64 y.Kind, .int .i64 y.ID, .int .i64 y.Which, .int .i64 y.To, .int .i64 y.At.X, .int .i64 y.At.Y, .int .i64 y.F.a0.N, .string y.F.a0.Text, .int .i64 y.F.a1.N, .string y.F.a1.Text, .int .i64 y.F.a2.N, .string y.F.a2.Text, .int .i64 y.F.a3.N, .string y.F.a3.Text, .int .i64 y.Value.N, .string y.Value.Text, .int .i64 y.Client, .int .i64 y.Session, .int .i64 y.Rect.X0, .int .i64 y.Rect.Y0, .int .i64 y.Rect.X1, .int .i64 y.Rect.Y1])) = some (Command.eqb x y) := by
 refine (eqst_run Tryz.underlying56 (by kernel_rfl) (d + 3) [(_, x.Kind == y.Kind), (_, x.ID == y.ID), (_, x.Which == y.Which), (_, x.To == y.To), (_, Point.eqb x.At y.At), (_, A4_Field.eqb x.F y.F), (_, Field.eqb x.Value y.Value), (_, x.Client == y.Client), (_, x.Session == y.Session), (_, Rect.eqb x.Rect y.Rect)] rfl ?_).trans (by kernel_rfl)
 intro p hp
 simp only [List.mem_cons, List.not_mem_nil, or_false] at hp
 rcases hp with rfl | rfl | rfl | rfl | rfl | rfl | rfl | rfl | rfl | rfl
 ·exact ⟨by simp, (.int .i64 x.Kind), (.int .i64 y.Kind), by kernel_rfl, by kernel_rfl, eqk_run (k := .i64) Tryz.underlying3 _ _ _ _⟩
 ·exact ⟨by simp, (.int .i64 x.ID), (.int .i64 y.ID), by kernel_rfl, by kernel_rfl, eqk_run (k := .i64) Tryz.underlying3 _ _ _ _⟩
 ·exact ⟨by simp, (.int .i64 x.Which), (.int .i64 y.Which), by kernel_rfl, by kernel_rfl, eqk_run (k := .i64) Tryz.underlying3 _ _ _ _⟩
 ·exact ⟨by simp, (.int .i64 x.To), (.int .i64 y.To), by kernel_rfl, by kernel_rfl, eqk_run (k := .i64) Tryz.underlying3 _ _ _ _⟩
 ·exact ⟨by simp, (.agg #[.int .i64 x.At.X, .int .i64 x.At.Y]), (.agg #[.int .i64 y.At.X, .int .i64 y.At.Y]), by kernel_rfl, by kernel_rfl, Point_run x.At y.At _⟩
 ·exact ⟨by simp, (.agg #[.int .i64 x.F.a0.N, .string x.F.a0.Text, .int .i64 x.F.a1.N, .string x.F.a1.Text, .int .i64 x.F.a2.N, .string x.F.a2.Text, .int .i64 x.F.a3.N, .string x.F.a3.Text]), (.agg #[.int .i64 y.F.a0.N, .string y.F.a0.Text, .int .i64 y.F.a1.N, .string y.F.a1.Text, .int .i64 y.F.a2.N, .string y.F.a2.Text, .int .i64 y.F.a3.N, .string y.F.a3.Text]), by kernel_rfl, by kernel_rfl, A4_Field_run x.F y.F _⟩
 ·exact ⟨by simp, (.agg #[.int .i64 x.Value.N, .string x.Value.Text]), (.agg #[.int .i64 y.Value.N, .string y.Value.Text]), by kernel_rfl, by kernel_rfl, Field_run x.Value y.Value _⟩
 ·exact ⟨by simp, (.int .i64 x.Client), (.int .i64 y.Client), by kernel_rfl, by kernel_rfl, eqk_run (k := .i64) Tryz.underlying3 _ _ _ _⟩
 ·exact ⟨by simp, (.int .i64 x.Session), (.int .i64 y.Session), by kernel_rfl, by kernel_rfl, eqk_run (k := .i64) Tryz.underlying3 _ _ _ _⟩
 ·exact ⟨by simp, (.agg #[.int .i64 x.Rect.X0, .int .i64 x.Rect.Y0, .int .i64 x.Rect.X1, .int .i64 x.Rect.Y1]), (.agg #[.int .i64 y.Rect.X0, .int .i64 y.Rect.Y0, .int .i64 y.Rect.X1, .int .i64 y.Rect.Y1]), by kernel_rfl, by kernel_rfl, Rect_run x.Rect y.Rect _⟩
theorem Command_eql (x y : Command) (cx cy : Bool) : prun Tryz.prog ((Prim.bin .eql 56 cx cy).sem [.agg #[.int .i64 x.Kind, .int .i64 x.ID, .int .i64 x.Which, .int .i64 x.To, .int .i64 x.At.X, .int .i64 x.At.Y, .int .i64 x.F.a0.N, .string x.F.a0.Text, .int .i64 x.F.a1.N, .string x.F.a1.Text, .int .i64 x.F.a2.N, .string x.F.a2.Text, .int .i64 x.F.a3.N, .string x.F.a3.Text, .int .i64 x.Value.N, .string x.Value.Text, .int .i64 x.Client, .int .i64 x.Session, .int .i64 x.Rect.X0, .int .i64 x.Rect.Y0, .int .i64 x.Rect.X1, .int .i64 x.Rect.Y1], .agg #[.int .i64 y.Kind, .int .i64 y.ID, .int .i64 y.Which, .int .i64 y.To, .int .i64 y.At.X, .int .i64 y.At.Y, .int .i64 y.F.a0.N, .string y.F.a0.Text, .int .i64 y.F.a1.N, .string y.F.a1.Text, .int .i64 y.F.a2.N, .string y.F.a2.Text, .int .i64 y.F.a3.N, .string y.F.a3.Text, .int .i64 y.Value.N, .string y.Value.Text, .int .i64 y.Client, .int .i64 y.Session, .int .i64 y.Rect.X0, .int .i64 y.Rect.Y0, .int .i64 y.Rect.X1, .int .i64 y.Rect.Y1]]) = some (.bool (Command.eqb x y)) := pr_eqst (Command_run x y 9996) (by kernel_rfl) cx cy
theorem Command_eqn (x y : Command) (cx cy : Bool) : prun Tryz.prog ((Prim.bin .neq 56 cx cy).sem [.agg #[.int .i64 x.Kind, .int .i64 x.ID, .int .i64 x.Which, .int .i64 x.To, .int .i64 x.At.X, .int .i64 x.At.Y, .int .i64 x.F.a0.N, .string x.F.a0.Text, .int .i64 x.F.a1.N, .string x.F.a1.Text, .int .i64 x.F.a2.N, .string x.F.a2.Text, .int .i64 x.F.a3.N, .string x.F.a3.Text, .int .i64 x.Value.N, .string x.Value.Text, .int .i64 x.Client, .int .i64 x.Session, .int .i64 x.Rect.X0, .int .i64 x.Rect.Y0, .int .i64 x.Rect.X1, .int .i64 x.Rect.Y1], .agg #[.int .i64 y.Kind, .int .i64 y.ID, .int .i64 y.Which, .int .i64 y.To, .int .i64 y.At.X, .int .i64 y.At.Y, .int .i64 y.F.a0.N, .string y.F.a0.Text, .int .i64 y.F.a1.N, .string y.F.a1.Text, .int .i64 y.F.a2.N, .string y.F.a2.Text, .int .i64 y.F.a3.N, .string y.F.a3.Text, .int .i64 y.Value.N, .string y.Value.Text, .int .i64 y.Client, .int .i64 y.Session, .int .i64 y.Rect.X0, .int .i64 y.Rect.Y0, .int .i64 y.Rect.X1, .int .i64 y.Rect.Y1]]) = some (.bool (!(Command.eqb x y))) := pr_nest (Command_run x y 9996) (by kernel_rfl) cx cy
abbrev zo (d : Nat) (op : POp) : POper := ⟨some d, op, none, []⟩
abbrev lj (n : Int) : Lf := li .i64 n
abbrev be : ByteArray := ByteArray.empty
abbrev qj (n : Int) : PV := .one (li .i64 n)
abbrev qb (b : Bool) : PV := .one (lb b)
abbrev qs (s : ByteArray) : PV := .one (ls s)
abbrev qp (k o : Nat) : PV := .one (.ptr k o)
instance (n : Nat) : OfNat Operand n := ⟨.tmp n⟩
abbrev kk (n : Int) : Operand := .const (.int .i64 n)
abbrev kf : Operand := .const (.bool false)
abbrev kt : Operand := .const (.bool true)
abbrev zf (d g : Nat) (op : POp) : POper := ⟨some d, op, some (g, false), []⟩
abbrev zt (d g : Nat) (op : POp) : POper := ⟨some d, op, some (g, true), []⟩
abbrev za (d x k o : Nat) (op : POp) : POper := ⟨some d, op, none, [(x, .at_ k o)]⟩
abbrev zs (op : POp) : POper := ⟨none, op, none, []⟩
abbrev zn (op : POp) (h : List (Nat × Hint)) : POper := ⟨none, op, none, h⟩
abbrev rg (o : List POper) : PCode := .region none false o
abbrev rh (o : List POper) : PCode := .region none true o
abbrev sq (a b : PCode) : PCode := .seq a b
abbrev rt : PCode := .ret
abbrev zM (d : Nat) (x : Operand) : POper := ⟨some d, .mv x, none, []⟩
abbrev zL (d : Nat) (x : Operand) : POper := ⟨some d, .load false 1 x, none, []⟩
abbrev zG (d o : Nat) (x : Operand) : POper := ⟨some d, .faddr o x, none, []⟩
abbrev zX (d : Nat) (x : Operand) (i : Nat) : POper := ⟨some d, .ext x i, none, []⟩
abbrev zK (d : Nat) (o : BinOp) (t : Nat) (x : Operand) (n : Int) : POper := ⟨some d, .prim (.bin o t false true) [x, kk n], none, []⟩
abbrev zB (d : Nat) (o : BinOp) (t : Nat) (x y : Operand) : POper := ⟨some d, .prim (.bin o t false false) [x, y], none, []⟩
abbrev zi (d x : Nat) (op : POp) : POper := ⟨some d, op, none, [(x, .imm)]⟩
abbrev zj (d x y : Nat) (op : POp) : POper := ⟨some d, op, none, [(x, .imm), (y, .imm)]⟩
abbrev ki : Value := .int .i64 0
abbrev ks : Value := .string ByteArray.empty
abbrev kl : Value := .slice none 0 0
def hg (l : List (List Nat × Hint)) (x : Nat) : Option Hint := (l.find? fun p => p.1.contains x).map (·.2)
abbrev tz : PV := .tup []
abbrev iw : IntKind → Int → Int := IntKind.wrap
abbrev w0 (X : Note) : List Lf := [lj X.From, lj X.Beat, vw Thing.cod X.Moved, vw Hand.cod X.Hands, vw Thing.cod X.Given, vw Command.cod X.Watch]
abbrev w1 (X : Command) : List Lf := [lj X.Kind, lj 0, lj 0, lj 0, lj 0, lj 0, lj 0, ls be, lj 0, ls be, lj 0, ls be, lj 0, ls be, lj 0, ls be, lj X.Client, lj X.Session, lj 0, lj 0, lj 0, lj 0]
abbrev w2 (X : Command) : List Lf := [lj X.Kind, lj 0, lj 0, lj 0, lj 0, lj 0, lj 0, ls be, lj 0, ls be, lj 0, ls be, lj 0, ls be, lj 0, ls be, lj X.Client, lj X.Session, lj X.Rect.X0, lj X.Rect.Y0, lj X.Rect.X1, lj X.Rect.Y1]
abbrev w3 (X : Command) : List Lf := [lj X.Kind, lj X.ID, lj 0, lj 0, lj 0, lj 0, lj 0, ls be, lj 0, ls be, lj 0, ls be, lj 0, ls be, lj 0, ls be, lj X.Client, lj X.Session, lj 0, lj 0, lj 0, lj 0]
abbrev w4 (X : Command) : List Lf := [lj X.Kind, lj X.ID, lj 0, lj 0, lj X.At.X, lj X.At.Y, lj 0, ls be, lj 0, ls be, lj 0, ls be, lj 0, ls be, lj 0, ls be, lj X.Client, lj X.Session, lj 0, lj 0, lj 0, lj 0]
abbrev w5 (X : Command) : List Lf := [lj X.Kind, lj X.ID, lj X.Which, lj 0, lj 0, lj 0, lj 0, ls be, lj 0, ls be, lj 0, ls be, lj 0, ls be, lj X.Value.N, ls X.Value.Text, lj X.Client, lj X.Session, lj 0, lj 0, lj 0, lj 0]
abbrev w6 (X : Command) : List Lf := [lj X.Kind, lj 0, lj X.Which, lj X.To, lj 0, lj 0, lj 0, ls be, lj 0, ls be, lj 0, ls be, lj 0, ls be, lj 0, ls be, lj X.Client, lj X.Session, lj 0, lj 0, lj 0, lj 0]
abbrev w7 (X : Command) : List (Nat × PV) := [(58, qp 3 18), (57, .agg (Rect.cells X.Rect)), (56, qp 1 18)]
abbrev w8 (X : Delta) : List (Nat × PV) := [(1, qp 1 0), (40, .agg (A4_Field.cells X.F)), (41, qj 4)]
abbrev w9 (X : Delta) : List (Nat × PV) := [(1, qp 1 0), (40, .agg (A4_Field.cells X.F)), (41, qj 3)]
abbrev w10 (X : Delta) : List (Nat × PV) := [(1, qp 1 0), (40, .agg (A4_Field.cells X.F)), (41, qj 2)]
abbrev w11 (X : Delta) : List (Nat × PV) := [(1, qp 1 0), (40, .agg (A4_Field.cells X.F)), (41, qj 1)]
abbrev w12 (X : Field) : List (Nat × PV) := [(11, qb (X.Text.toList == be.toList)), (10, qb (X.Text.toList == be.toList)), (9, qb (X.Text.toList == be.toList)), (8, qs X.Text), (7, qp 1 1)]
abbrev w13 (X : Field) : List (Nat × PV) := [(2, qb (decide ((X.Text.size : Int) ≤ 12))), (16, qb (decide ((X.Text.size : Int) ≤ 12))), (15, qb (decide ((X.Text.size : Int) ≤ 12))), (14, qj (X.Text.size : Int)), (13, qs X.Text), (12, qp 1 1)]
abbrev w14 (X : Command) : List Lf := [lj X.Kind, lj 0, lj 0, lj 0, lj X.At.X, lj X.At.Y, lj 0, ls be, lj 0, ls be, lj 0, ls be, lj 0, ls be, lj 0, ls be, lj X.Client, lj X.Session, lj 0, lj 0, lj 0, lj 0]
abbrev w15 (X : Command) : List Lf := [lj X.Kind, lj X.ID, lj X.Which, lj 0, lj 0, lj 0, lj 0, ls be, lj 0, ls be, lj 0, ls be, lj 0, ls be, lj 0, ls be, lj X.Client, lj X.Session, lj 0, lj 0, lj 0, lj 0]
abbrev w16 (X : Command) : List (Nat × PV) := [(52, qp 3 3), (51, qp 3 2), (50, qj X.To), (49, qp 1 3), (48, qj X.Which), (47, qp 1 2)]
abbrev w17 (X : Command) : List Lf := [lj X.Kind, lj 0, lj X.Which, lj 0, lj 0, lj 0, lj 0, ls be, lj 0, ls be, lj 0, ls be, lj 0, ls be, lj 0, ls be, lj X.Client, lj X.Session, lj 0, lj 0, lj 0, lj 0]
abbrev w18 (X : Point) : List (Nat × PV) := [(6, qb (decide ((0 : Int) ≤ X.X))), (5, qb (decide ((0 : Int) ≤ X.X))), (4, qj X.X), (3, qp 1 0)]
abbrev w19 (X : Point) : List (Nat × PV) := [(11, qb (decide (X.X < 64))), (10, qb (decide (X.X < 64))), (9, qb (decide (X.X < 64))), (8, qj X.X), (7, qp 1 0)]
abbrev w20 (X : Point) : List (Nat × PV) := [(16, qb (decide ((0 : Int) ≤ X.Y))), (15, qb (decide ((0 : Int) ≤ X.Y))), (14, qb (decide ((0 : Int) ≤ X.Y))), (13, qj X.Y), (12, qp 1 1)]
abbrev w21 (X : Point) : List (Nat × PV) := [(2, qb (decide (X.Y < 64))), (20, qb (decide (X.Y < 64))), (19, qb (decide (X.Y < 64))), (18, qj X.Y), (17, qp 1 1)]
abbrev W0 : List Lf := [lj 0, lj 0, lj 0, lj 0, lj 0, lj 0, lj 0, ls be, lj 0, ls be, lj 0, ls be, lj 0, ls be, lj 0, ls be, lj 0, lj 0, lj 0, lj 0, lj 0, lj 0]
abbrev W1 : List Lf := [lj 0, li .u8 0, lj 0, lj 0, lj 0, ls be, lj 0, ls be, lj 0, ls be, lj 0, ls be]
abbrev W2 (X0 : Command) : List (Nat × Option Ob) := [(1, some (.cells (Command.cells X0)))]
abbrev W3 : List Lf := [.ptr 1000003 0, .ptr 1000004 0]
abbrev W4 : List Nat := [300000, 300001, 300002, 300003, 300004, 300005, 300006, 300007, 1000003, 1000004]
abbrev W5 (X0 : Delta) : List (Nat × Option Ob) := [(1, some (.cells (Delta.cells X0)))]
abbrev W6 (X0 : (Int × Reader)) (X1 : (Int × Reader)) (X2 : ((List Thing) × Reader)) (X3 : (List Hand)) (X4 : ((List Thing) × Reader)) (X5 : (List Command)) : List Lf := [lj X0.1, lj X1.1, vw Thing.cod X2.1, .osl 100027 0 0 (X3).length, vw Thing.cod X4.1, .osl 100064 0 0 (X5).length]
abbrev W7 (X0 : Note) : List Lf := [lj X0.From, lj X0.Beat, vw Thing.cod X0.Moved, vw Hand.cod X0.Hands, vw Thing.cod X0.Given, vw Command.cod X0.Watch]
abbrev W8 : List Lf := [.fn 84 [.ptr 1 0, .ptr 6 0]]
abbrev W9 (X0 : (Note × Int × Int)) : List Lf := [lj X0.1.From, lj X0.1.Beat, vw Thing.cod X0.1.Moved, vw Hand.cod X0.1.Hands, vw Thing.cod X0.1.Given, vw Command.cod X0.1.Watch]
abbrev W10 (X0 : Int) (X1 : Int) (X2 : Int) (X3 : ByteArray) : List (Nat × PV) := [(5, .one (li .u64 X0)), (6, qj 0), (7, qj X1), (8, .one (li .u8 X2)), (10, .one (vw (codI .u8) (bytesL X3))), (11, qj ((bytesL X3).length : Int)), (12, qj X1)]
abbrev W11 (X0 : Thing) : List (Nat × Option Ob) := [(1, some (.cells (Thing.cells X0)))]
abbrev W12 (X0 : Command) : List Lf := [lj X0.Kind, lj 0, lj 0, lj 0, lj X0.At.X, lj X0.At.Y, lj X0.F.a0.N, ls X0.F.a0.Text, lj X0.F.a1.N, ls X0.F.a1.Text, lj X0.F.a2.N, ls X0.F.a2.Text, lj X0.F.a3.N, ls X0.F.a3.Text, lj 0, ls be, lj X0.Client, lj X0.Session, lj 0, lj 0, lj 0, lj 0]
abbrev W13 : List Lf := [.ptr 5 6, .ptr 5 8, .ptr 5 10, .ptr 5 12]
abbrev W14 : List Nat := [1, 300000, 300001, 300002, 300003, 300004, 300005, 300006, 300007]
abbrev W15 : List Lf := [lj 0, lj 0, lnil, lnil, lnil, lnil]
abbrev W16 (X0 : Command) : List (Nat × Option Ob) := [(1, some (.cells (Command.cells X0))), (300000, some (.cells [.ptr 1 18, .ptr 1 19, .ptr 1 20, .ptr 1 21]))]
abbrev W17 : List Nat := [5, 300000, 300001, 300002, 300003, 300004, 300005, 300006, 300007]
abbrev W18 (X0 : Command) : List (Nat × Option Ob) := [(1, some (.cells (Command.cells X0))), (300000, some (.cells [.ptr 1 6, .ptr 1 8, .ptr 1 10, .ptr 1 12]))]
abbrev W19 (X0 : (List Int)) : List (Nat × Option Ob) := [(4, some (.tcells 61 [.ptr 4 0, .osl 400032 0 0 (X0).length])), (400032, some (.arr 5 (codI .u8).sz 0 (X0).length (getOf (codI .u8) X0)))]
abbrev W20 : List Lf := [li .u64 8, li .u32 16711935, li .u64 4, li .u32 252645135, li .u64 2, li .u32 858993459, li .u64 1, li .u32 1431655765]
abbrev W21 : List (Nat × PV) := [(2, qp 2 0), (5, qp 11 0), (6, qp 6 0)]
abbrev W22 : List Nat := [1, 5, 6, 7, 300000, 300001, 300002, 300003, 300004, 300005, 300006, 300007]
abbrev W23 (X0 : Command) : List (Nat × Option Ob) := [(1, some (.cells (Command.cells X0))), (300000, some (.cells [.ptr 1 1, .ptr 1 4, .ptr 1 5]))]
abbrev W24 (X0 : (List Int)) : List (Nat × Option Ob) := [(8, some (.tcells 61 [.ptr 8 0, .osl 400064 (0 + 1) 0 (X0).length])), (400064, some (.arr 5 (codI .u8).sz (0 + 1) (X0).length (getOf (codI .u8) X0)))]
abbrev W25 : List PV := [qp 1000003 0, qp 1000004 0]
abbrev W26 (X0 : (List Int)) : List (Nat × Option Ob) := [(8, some (.tcells 61 [.ptr 8 0, .osl 400064 0 0 (X0).length])), (400064, some (.arr 5 (codI .u8).sz 0 (X0).length (getOf (codI .u8) X0)))]
abbrev W27 (X0 : ByteArray) (X1 : Command) (X2 : Int) : List (Nat × Option Ob) := [(1, some (.cells [ls X0])), (2, some (.cells W0)), (5, some (.cells (Command.cells X1))), (6, some (.cells [lj X2])), (7, some (.cells W8)), (300000, some (.cells W13))]
abbrev W28 (X0 : ByteArray) (X1 : (Int × Command × Int)) : List (Nat × Option Ob) := [(1, some (.cells [ls X0])), (2, some (.cells W0)), (5, some (.cells (Command.cells X1.2.1))), (6, some (.cells [lj X1.2.2])), (7, some (.cells W8))]
abbrev W29 (X0 : (Int × Reader)) (X1 : (Int × Reader)) (X2 : ((List Thing) × Reader)) (X3 : (List Hand)) (X4 : ((List Thing) × Reader)) (X5 : (List Command)) (X6 : Reader) : List (Nat × Option Ob) := [(2, some (.cells W15)), (3, some (.cells (W6 X0 X1 X2 X3 X4 X5))), (100027, some (.arr 40 Hand.cod.sz 0 (X3).length (getOf Hand.cod X3))), (100064, some (.arr 56 Command.cod.sz 0 (X5).length (getOf Command.cod X5))), (1000000, some (.cells (Reader.cells X6)))]
abbrev W30 (X0 : ByteArray) (X1 : Command) (X2 : Int) (X3 : (ByteArray × Int × Int)) : List (Nat × Option Ob) := [(1, some (.cells [ls X0])), (2, some (.cells W0)), (5, some (.cells (Command.cells X1))), (6, some (.cells [lj (iw .i64 (X2 + X3.2.1))])), (7, some (.cells W8)), (300000, some (.cells W13))]
abbrev W31 : List Nat := [8, 300000, 300001, 300002, 300003, 300004, 300005, 300006, 300007, 400064]
abbrev W32 (X0 : (Note × Reader)) : List Lf := [lj X0.1.From, lj X0.1.Beat, vw Thing.cod X0.1.Moved, vw Hand.cod X0.1.Hands, vw Thing.cod X0.1.Given, vw Command.cod X0.1.Watch]
abbrev W33 (X0 : (Int × Int × Int)) : List (Nat × PV) := [(16, .tup [qj X0.1, qj X0.2.1])]
abbrev W34 : List Lf := [lj 0, lj 0, lj 0, lj 0, ls be, lj 0, ls be, lj 0, ls be, lj 0, ls be]
abbrev W35 : List (Nat × PV) := [(2, qp 2 0), (5, qp 11 0), (6, qp 6 0), (51, qj 4)]
abbrev W36 : List (Nat × PV) := [(2, qp 2 0), (5, qp 11 0), (6, qp 6 0), (51, qj 3)]
abbrev W37 : List (Nat × PV) := [(2, qp 2 0), (5, qp 11 0), (6, qp 6 0), (51, qj 2)]
abbrev W38 : List (Nat × PV) := [(2, qp 2 0), (5, qp 11 0), (6, qp 6 0), (51, qj 1)]
abbrev W39 : List Lf := [.ptr 1000001 18, .ptr 1000001 19, .ptr 1000001 20, .ptr 1000001 21]
abbrev W40 (X0 : (Int × Command × Int)) : List (Nat × PV) := [(1, qp 1 0), (2, qp 2 0), (5, qp 5 0), (6, qp 6 0), (7, qp 7 0), (10, qj X0.1)]
abbrev W41 (X0 : Command) : List (Nat × Option Ob) := [(1, some (.cells (Command.cells X0))), (300000, some (.cells [.ptr 1 4, .ptr 1 5]))]
abbrev W42 (X0 : Command) : List (Nat × Option Ob) := [(1, some (.cells (Command.cells X0))), (300000, some (.cells [.ptr 1 1, .ptr 1 2]))]
abbrev W43 (X0 : Command) : List (Nat × Option Ob) := [(1, some (.cells (Command.cells X0))), (300000, some (.cells [.ptr 1 2, .ptr 1 3]))]
abbrev W44 (X0 : (Int × Reader_fields)) (X1 : (Int × Reader_fields)) : List (Nat × Option Ob) := [(2, some (.cells W1)), (6, some (.cells [lj X0.1, li .u8 (iw .u8 X1.1), lj 0, lj 0, lj 0, ls be, lj 0, ls be, lj 0, ls be, lj 0, ls be])), (11, some (.cells (Reader_fields.cells X1.2)))]
abbrev W45 (X0 : Int) (X1 : ByteArray) (X2 : Int) : List (Nat × PV) := [(5, .one (li .u64 X0)), (6, qj 0), (10, .one (vw (codI .u8) (bytesL X1))), (11, qj ((bytesL X1).length : Int)), (12, qj X2)]
abbrev W46 : List Nat := [1, 6, 300000, 300001, 300002, 300003, 300004, 300005, 300006, 300007]
abbrev W47 (X0 : ByteArray) (X1 : Command) (X2 : Int) : List (Nat × Option Ob) := [(1, some (.cells [ls X0])), (2, some (.cells W0)), (5, some (.cells (Command.cells X1))), (6, some (.cells [lj X2])), (7, some (.cells W8)), (300000, some (.cells [.ptr 5 14]))]
abbrev W48 : List Lf := [.ptr 1000000 18, .ptr 1000000 19, .ptr 1000000 20, .ptr 1000000 21]
abbrev W49 (X0 : (List Int)) : List (Nat × Option Ob) := [(4, some (.tcells 61 [.ptr 4 0, .osl 400032 (0 + 1) 0 (X0).length])), (400032, some (.arr 5 (codI .u8).sz (0 + 1) (X0).length (getOf (codI .u8) X0)))]
abbrev W50 : List Lf := [.ptr 1000000 6, .ptr 1000000 8, .ptr 1000000 10, .ptr 1000000 12]
abbrev W51 (X0 : (Int × Reader_fields)) (X1 : (Int × Reader_fields)) : List (Nat × Option Ob) := [(2, some (.cells W1)), (6, some (.cells [lj X0.1, li .u8 0, lj 0, lj 0, lj 0, ls be, lj 0, ls be, lj 0, ls be, lj 0, ls be])), (11, some (.cells (Reader_fields.cells X1.2)))]
abbrev W52 (X0 : ByteArray) (X1 : Command) (X2 : Int) : List (Nat × Option Ob) := [(1, some (.cells [ls X0])), (2, some (.cells W0)), (5, some (.cells (Command.cells X1))), (6, some (.cells [lj X2]))]
abbrev W53 : List Nat := [1, 2, 5, 6, 7, 15, 37, 38, 39]
abbrev W54 (X0 : (Field × Reader_fields)) : List (Nat × Option Ob) := [(11, some (.cells (Reader_fields.cells X0.2)))]
abbrev W55 : List (Nat × PV) := [(1, qp 1 0), (3, qb false)]
abbrev W56 : List Nat := [4, 300000, 300001, 300002, 300003, 300004, 300005, 300006, 300007, 400032]
abbrev W57 (X0 : Reader) : List (Nat × Option Ob) := [(1000000, some (.cells (Reader.cells X0)))]
abbrev W58 (X0 : Command) (X1 : (Int × Int × Int)) (X2 : (ByteArray × Int × Int)) : List Lf := [lj X0.Kind, lj X0.ID, lj X0.Which, lj X0.To, lj X0.At.X, lj X0.At.Y, lj X0.F.a0.N, ls X0.F.a0.Text, lj X0.F.a1.N, ls X0.F.a1.Text, lj X0.F.a2.N, ls X0.F.a2.Text, lj X1.1, ls X2.1, lj X0.Value.N, ls X0.Value.Text, lj X0.Client, lj X0.Session, lj X0.Rect.X0, lj X0.Rect.Y0, lj X0.Rect.X1, lj X0.Rect.Y1]
abbrev W59 (X0 : Command) (X1 : (Int × Int × Int)) (X2 : (ByteArray × Int × Int)) : List Lf := [lj X0.Kind, lj X0.ID, lj X0.Which, lj X0.To, lj X0.At.X, lj X0.At.Y, lj X0.F.a0.N, ls X0.F.a0.Text, lj X0.F.a1.N, ls X0.F.a1.Text, lj X1.1, ls X2.1, lj X0.F.a3.N, ls X0.F.a3.Text, lj X0.Value.N, ls X0.Value.Text, lj X0.Client, lj X0.Session, lj X0.Rect.X0, lj X0.Rect.Y0, lj X0.Rect.X1, lj X0.Rect.Y1]
abbrev W60 (X0 : Command) (X1 : (Int × Int × Int)) (X2 : (ByteArray × Int × Int)) : List Lf := [lj X0.Kind, lj X0.ID, lj X0.Which, lj X0.To, lj X0.At.X, lj X0.At.Y, lj X0.F.a0.N, ls X0.F.a0.Text, lj X1.1, ls X2.1, lj X0.F.a2.N, ls X0.F.a2.Text, lj X0.F.a3.N, ls X0.F.a3.Text, lj X0.Value.N, ls X0.Value.Text, lj X0.Client, lj X0.Session, lj X0.Rect.X0, lj X0.Rect.Y0, lj X0.Rect.X1, lj X0.Rect.Y1]
abbrev W61 (X0 : Command) (X1 : (Int × Int × Int)) (X2 : (ByteArray × Int × Int)) : List Lf := [lj X0.Kind, lj X0.ID, lj X0.Which, lj X0.To, lj X0.At.X, lj X0.At.Y, lj X1.1, ls X2.1, lj X0.F.a1.N, ls X0.F.a1.Text, lj X0.F.a2.N, ls X0.F.a2.Text, lj X0.F.a3.N, ls X0.F.a3.Text, lj X0.Value.N, ls X0.Value.Text, lj X0.Client, lj X0.Session, lj X0.Rect.X0, lj X0.Rect.Y0, lj X0.Rect.X1, lj X0.Rect.Y1]
abbrev W62 (X0 : Command) (X1 : (Int × Int × Int)) (X2 : (ByteArray × Int × Int)) : List Lf := [lj X0.Kind, lj X0.ID, lj X0.Which, lj X0.To, lj X0.At.X, lj X0.At.Y, lj X0.F.a0.N, ls X0.F.a0.Text, lj X0.F.a1.N, ls X0.F.a1.Text, lj X0.F.a2.N, ls X0.F.a2.Text, lj X0.F.a3.N, ls X0.F.a3.Text, lj X1.1, ls X2.1, lj X0.Client, lj X0.Session, lj X0.Rect.X0, lj X0.Rect.Y0, lj X0.Rect.X1, lj X0.Rect.Y1]
abbrev W63 (X0 : (Int × Reader_fields)) (X1 : (Int × Reader_fields)) (X2 : (Int × Reader_fields)) (X3 : (Int × Reader_fields)) : List (Nat × Option Ob) := [(2, some (.cells W1)), (6, some (.cells [lj X0.1, li .u8 (iw .u8 X1.1), lj X2.1, lj X3.1, lj 0, ls be, lj 0, ls be, lj 0, ls be, lj 0, ls be])), (11, some (.cells (Reader_fields.cells X3.2)))]
abbrev W64 (X0 : (Int × Reader)) (X1 : (Int × Reader)) (X2 : ((List Thing) × Reader)) (X3 : (List Hand)) (X4 : ((List Thing) × Reader)) (X5 : (Int × Reader)) : List (Nat × Option Ob) := [(2, some (.cells W15)), (3, some (.cells [lj X0.1, lj X1.1, vw Thing.cod X2.1, .osl 100027 0 0 (X3).length, vw Thing.cod X4.1, .osl 100064 0 0 (([] : List Command)).length])), (100027, some (.arr 40 Hand.cod.sz 0 (X3).length (getOf Hand.cod X3))), (100064, some (.arr 56 Command.cod.sz 0 (([] : List Command)).length (getOf Command.cod ([] : List Command)))), (1000000, some (.cells (Reader.cells X5.2)))]
abbrev W65 : List Lf := [.ptr 1000001 0, .ptr 1000001 16, .ptr 1000001 17]
abbrev W66 (X0 : (Int × Reader_fields)) (X1 : (Int × Reader_fields)) (X2 : Int) (X3 : ByteArray) (X4 : Reader_fields) : List (Nat × Option Ob) := [(2, some (.cells W1)), (6, some (.cells [lj X0.1, li .u8 (iw .u8 X1.1), lj 0, lj 0, lj X2, ls X3, lj 0, ls be, lj 0, ls be, lj 0, ls be])), (11, some (.cells (Reader_fields.cells X4)))]
abbrev W67 (X0 : (Int × Reader)) : List (Nat × Option Ob) := [(1000000, some (.cells (Reader.cells X0.2)))]
abbrev W68 : List Lf := [.ptr 1000000 1, .ptr 1000000 4, .ptr 1000000 5]
abbrev W69 : List Lf := [.ptr 1000001 1, .ptr 1000001 4, .ptr 1000001 5]
abbrev W70 (X0 : Int) (X1 : Int) (X2 : Int) : List (Nat × PV) := [(5, .one (li .u64 (bitsI .or .u64 X0 (shlI .u64 (iw .u64 (bitsI .and .u8 X1 127)) (iw .u64 (iw .i64 (7 * X2))))))), (6, qj X2)]
abbrev W71 (X0 : Reader_fields) : List (Nat × Option Ob) := [(1000000, some (.cells (Reader_fields.cells X0)))]
abbrev W72 (X0 : Command) : List (Nat × Option Ob) := [(1, some (.cells (Command.cells X0))), (300000, some (.cells [.ptr 1 14]))]
abbrev W73 (X0 : (ByteArray × Int × Int)) (X1 : Int) (X2 : Int) (X3 : Int) : List (Nat × Option Ob) := [(41, some (.arr 1000000005 (codI .u8).sz 0 (((bytesL X0.1).set ((Int.tmod (iw .i64 X1) ((bytesL X0.1).length : Int)).toNat) (bitsI .xor .u8 X2 X3))).length (getOf (codI .u8) ((bytesL X0.1).set ((Int.tmod (iw .i64 X1) ((bytesL X0.1).length : Int)).toNat) (bitsI .xor .u8 X2 X3)))))]
abbrev W74 (X0 : Int) : List (Nat × Option Ob) := [(1000000, some (.cells [lj X0]))]
abbrev W75 (X0 : Command) : List (Nat × Option Ob) := [(1, some (.cells (Command.cells X0))), (300000, some (.cells [.ptr 1 1]))]
abbrev W76 (X0 : (ByteArray × Int × Int)) : List PV := [qs X0.1, qj X0.2.1, qj X0.2.2]
abbrev W77 (X0 : (Field × Reader_fields)) : List (Nat × PV) := [(67, .agg [lj X0.1.N, ls X0.1.Text])]
abbrev W78 (X0 : Bool) (X1 : Bool) : List (Nat × PV) := [(1, qp 1 0), (5, qb X0), (6, qb X1), (7, qb false)]
abbrev W79 (X0 : Command) : List (Nat × PV) := [(0, .agg (Command.cells X0))]
abbrev W80 : List (Nat × PV) := [(1, qp 1 0), (2, qp 2 0), (5, qp 5 0), (6, qp 6 0)]
abbrev W81 (X0 : Int) (X1 : ByteArray) (X2 : Int) : List (Nat × PV) := [(3, .one (li .u32 X0)), (8, .one (vw (codI .u8) (bytesL X1))), (9, qj ((bytesL X1).length : Int)), (10, qj X2)]
abbrev W82 : List (Nat × PV) := [(1, qp 1000002 0), (8, .one (.csl 1000000 1 0 2)), (9, qj 2), (10, qj 0)]
abbrev W83 : List (Nat × PV) := [(1, qp 1000002 0), (8, .one (.csl 1000000 1 0 2)), (9, qj 2), (10, qj 1)]
abbrev W84 : List (Nat × PV) := [(1, qp 1000002 0), (8, .one (.csl 1000000 1 0 2)), (9, qj 2), (10, qj 2)]
abbrev W85 (X0 : (Int × Reader)) (X1 : Int) : List (Nat × PV) := [(0, qp 1000000 0), (2, qp 2 0), (3, qp 3 0), (38, qj X0.1), (39, qj X1)]
abbrev W86 (X0 : (Int × Reader_fields)) (X1 : (Int × Reader_fields)) (X2 : Int) (X3 : ByteArray) (X4 : Int) (X5 : ByteArray) (X6 : Reader_fields) : List (Nat × Option Ob) := [(2, some (.cells W1)), (6, some (.cells [lj X0.1, li .u8 (iw .u8 X1.1), lj 0, lj 0, lj X2, ls X3, lj X4, ls X5, lj 0, ls be, lj 0, ls be])), (11, some (.cells (Reader_fields.cells X6)))]
abbrev W87 (X0 : (Thing × Int × Int)) (X1 : (List Thing)) : List (Nat × Option Ob) := [(9, some (.cells (Thing.cells X0.1))), (100008, some (.arr 47 Thing.cod.sz 0 (X1).length (getOf Thing.cod X1)))]
abbrev W88 : List Nat := [1, 2, 5, 6, 7, 24, 300000]
abbrev W89 (X0 : ByteArray) (X1 : (Int × Int × Int)) : List (Nat × Option Ob) := [(1, some (.cells [ls X0])), (6, some (.cells [lj X1.2.2]))]
abbrev W90 : List Nat := [300000, 300001, 300002, 300003, 300004, 300005, 300006, 300007]
abbrev W91 (X0 : (Int × Reader)) (X1 : (Int × Reader)) (X2 : ((List Thing) × Reader)) (X3 : (List Hand)) (X4 : ((List Thing) × Reader)) (X5 : (List Command)) (X6 : (Command × Int × Int)) (X7 : Reader) : List (Nat × Option Ob) := [(2, some (.cells W15)), (3, some (.cells [lj X0.1, lj X1.1, vw Thing.cod X2.1, .osl 100027 0 0 (X3).length, vw Thing.cod X4.1, .osl 100064 0 0 ((X5 ++ [X6.1])).length])), (100027, some (.arr 40 Hand.cod.sz 0 (X3).length (getOf Hand.cod X3))), (100064, some (.arr 56 Command.cod.sz 0 ((X5 ++ [X6.1])).length (getOf Command.cod (X5 ++ [X6.1])))), (1000000, some (.cells (Reader.cells X7)))]
abbrev W92 (X0 : Command) : List (Nat × Option Ob) := [(1000000, some (.cells (Command.cells X0)))]
abbrev W93 : List Lf := [.fn 84 [.ptr 1000001 0, .ptr 1000002 0]]
abbrev W94 (X0 : Bool) : List (Nat × PV) := [(1, qp 1 0), (3, qb X0), (4, qj 4)]
abbrev W95 (X0 : Bool) : List (Nat × PV) := [(1, qp 1 0), (3, qb X0), (4, qj 3)]
abbrev W96 (X0 : Bool) : List (Nat × PV) := [(1, qp 1 0), (3, qb X0), (4, qj 2)]
abbrev W97 (X0 : Bool) : List (Nat × PV) := [(1, qp 1 0), (3, qb X0), (4, qj 1)]
abbrev W98 : List Lf := [.ptr 1000000 4, .ptr 1000000 5]
abbrev W99 : List Lf := [.ptr 1000000 1, .ptr 1000000 2]
abbrev W100 : List Lf := [.ptr 1000000 2, .ptr 1000000 3]
abbrev W101 (X0 : (Int × Reader_fields)) (X1 : (Int × Reader_fields)) (X2 : (Int × Reader_fields)) (X3 : (Int × Reader_fields)) (X4 : Int) (X5 : ByteArray) (X6 : Reader_fields) : List (Nat × Option Ob) := [(2, some (.cells W1)), (6, some (.cells [lj X0.1, li .u8 (iw .u8 X1.1), lj X2.1, lj X3.1, lj X4, ls X5, lj 0, ls be, lj 0, ls be, lj 0, ls be])), (11, some (.cells (Reader_fields.cells X6)))]
abbrev W102 (X0 : (List Thing)) : List (Nat × Option Ob) := [(100008, some (.arr 47 Thing.cod.sz 0 (X0).length (getOf Thing.cod X0)))]
abbrev W103 (X0 : ByteArray) (X1 : ByteArray) (X2 : ByteArray) : List (Nat × PV) := [(1, qp 1 0), (4, qs ((X0 ++ X1) ++ X2)), (23, .one (.csl 300000 1 0 2)), (24, qj 2), (25, qj 0)]
abbrev W104 (X0 : ByteArray) (X1 : Int) (X2 : (List Thing)) (X3 : (Thing × Int × Int)) (X4 : (Int × Int × Int)) (X5 : Int) : List (Nat × PV) := [(0, qs X0), (6, qj X1), (8, .one (.osl 100008 0 0 (X2).length)), (9, qp 9 0), (10, qj X3.2.1), (25, .one (li .u64 X4.1)), (26, .one (li .u64 X5))]
abbrev W105 (X0 : Point) : List (Nat × Option Ob) := [(1, some (.cells [lj X0.X, lj X0.Y]))]
abbrev W106 : List Nat := [2, 3, 4, 100027, 100064, 1000000]
abbrev W107 : List (Nat × PV) := [(0, .one (.csl 1000000 1 0 2)), (1, qp 1000002 0)]
abbrev W108 : List Lf := [.ptr 1000001 2, .ptr 1000001 3]
abbrev W109 : List Lf := [.ptr 1000001 1, .ptr 1000001 2]
abbrev W110 : List Lf := [.ptr 1000001 4, .ptr 1000001 5]
abbrev W111 : List Lf := [.ptr 5 18, .ptr 5 19, .ptr 5 20, .ptr 5 21]
abbrev W112 (X0 : (Int × Reader_fields)) (X1 : (Int × Reader_fields)) (X2 : Int) (X3 : ByteArray) (X4 : Int) (X5 : ByteArray) (X6 : Int) (X7 : ByteArray) (X8 : Reader_fields) : List (Nat × Option Ob) := [(2, some (.cells W1)), (6, some (.cells [lj X0.1, li .u8 (iw .u8 X1.1), lj 0, lj 0, lj X2, ls X3, lj X4, ls X5, lj X6, ls X7, lj 0, ls be])), (11, some (.cells (Reader_fields.cells X8)))]
abbrev W113 (X0 : ByteArray) (X1 : ByteArray) (X2 : ByteArray) (X3 : ByteArray) : List (Nat × PV) := [(1, qp 1 0), (4, qs (((X0 ++ X1) ++ X2) ++ X3)), (23, .one (.csl 300000 1 0 2)), (24, qj 2), (25, qj 1)]
abbrev W114 (X0 : ByteArray) (X1 : Int) : List PV := [qs (X0.extract X1.toNat X0.size), qj 12]
abbrev W115 (X0 : Int) (X1 : (ByteArray × Int × Int)) : List (Nat × Option Ob) := [(6, some (.cells [lj (iw .i64 (X0 + X1.2.1))]))]
abbrev W116 (X0 : Thing) : List PV := [.one (vw Field.cod [X0.F.a0, X0.F.a1, X0.F.a2, X0.F.a3]), .one (.val (.func (.func 91) #[] #[]))]
abbrev W117 (X0 : (List Thing)) (X1 : Int) : List (Nat × PV) := [(0, .one (vw Thing.cod X0)), (4, qp 4 0), (17, .one (vw Thing.cod X0)), (18, qj ((X0).length : Int)), (19, qj (iw .i64 (X1 + 1)))]
abbrev W118 (X0 : (Int × Int × Int)) : List PV := [.one (li .u64 X0.1), qj X0.2.1, qj X0.2.2]
abbrev W119 (X0 : Thing) : List PV := [.agg [lj X0.At.X, lj X0.At.Y]]
abbrev W120 (X0 : ByteArray) (X1 : Delta) : List (Nat × PV) := [(1, qp 1 0), (4, qs X0), (37, .agg (A4_Field.cells X1.F)), (38, qj 4)]
abbrev W121 (X0 : ByteArray) (X1 : Delta) : List (Nat × PV) := [(1, qp 1 0), (4, qs X0), (37, .agg (A4_Field.cells X1.F)), (38, qj 3)]
abbrev W122 (X0 : ByteArray) (X1 : Delta) : List (Nat × PV) := [(1, qp 1 0), (4, qs X0), (37, .agg (A4_Field.cells X1.F)), (38, qj 2)]
abbrev W123 (X0 : ByteArray) (X1 : Delta) : List (Nat × PV) := [(1, qp 1 0), (4, qs X0), (37, .agg (A4_Field.cells X1.F)), (38, qj 1)]
abbrev W124 (X0 : ByteArray) (X1 : Int) (X2 : (List Thing)) (X3 : (Int × Int × Int)) (X4 : Int) : List (Nat × PV) := [(0, qs X0), (6, qj X1), (8, .one (.osl 100008 0 0 (X2).length)), (25, .one (li .u64 X3.1)), (26, .one (li .u64 X4))]
abbrev W125 : List Nat := [300000, 300001, 300002, 300003, 300004, 300005, 300006, 300007, 1000000]
abbrev W126 (X0 : (List Int)) : List Lf := [.ptr 8 0, .osl 400064 0 0 (X0).length]
abbrev W127 (X0 : (Int × Reader_fields)) : List (Nat × Option Ob) := [(11, some (.cells (Reader_fields.cells X0.2)))]
abbrev W128 (X0 : Field) : List (Nat × Option Ob) := [(1, some (.cells [lj X0.N, ls X0.Text]))]
abbrev W129 (X0 : ByteArray) (X1 : ByteArray) (X2 : ByteArray) (X3 : ByteArray) (X4 : ByteArray) : List (Nat × PV) := [(1, qp 1 0), (4, qs ((((X0 ++ X1) ++ X2) ++ X3) ++ X4)), (23, .one (.csl 300000 1 0 2)), (24, qj 2), (25, qj 2)]
abbrev W130 : List (Nat × PV) := [(1, qp 1000002 0), (8, .one (.csl 1000000 1 0 3)), (9, qj 3), (10, qj 0)]
abbrev W131 : List (Nat × PV) := [(1, qp 1000002 0), (8, .one (.csl 1000000 1 0 3)), (9, qj 3), (10, qj 1)]
abbrev W132 : List (Nat × PV) := [(1, qp 1000002 0), (8, .one (.csl 1000000 1 0 3)), (9, qj 3), (10, qj 2)]
abbrev W133 : List (Nat × PV) := [(1, qp 1000002 0), (8, .one (.csl 1000000 1 0 3)), (9, qj 3), (10, qj 3)]
abbrev ow0 : TypeId → List (Nat × TypeId × Nat) := fun t => match t with
  | 61 => [(1, 5, 1)]
  | _ => []
abbrev tc1 : TypeId → Bool := fun t => match t with
  | 61 => true
  | _ => false
end Go.Proofs.YtpjejnefegdoeaaGreat
