/- No condition. -/
import Derived.Test.YthdabpmcojmhhaaProg
import Derived.Test.YthdabpmcojmhhaaRxZa
import Derived.Test.YthdabpmcojmhhaaRxWr
namespace Go.Proofs.Ythdabpmcojmhhaa
open Go Go.Rx
set_option maxRecDepth 100000
set_option linter.unusedVariables false
set_option linter.unusedSimpArgs false
set_option linter.unnecessarySimpa false
set_option linter.unnecessarySimpa false
set_option linter.unnecessarySimpa false
structure A4 (α : Type) where
 (a0 a1 a2 a3 : α)
 deriving DecidableEq
structure Point where
 X : Int
 Y : Int
 deriving DecidableEq
def Point.cells (x : Point) : List Lf := [li .i64 x.X, li .i64 x.Y]
def Point.cod : Cod Point := ⟨2, Point.cells⟩
structure Field where
 N : Int
 Text : ByteArray
 deriving DecidableEq
def Field.cells (x : Field) : List Lf := [li .i64 x.N, ls x.Text]
def Field.cod : Cod Field := ⟨2, Field.cells⟩
structure Thing where
 ID : Int
 At : Point
 F : (A4 Field)
 deriving DecidableEq
def Thing.cells (x : Thing) : List Lf := [li .i64 x.ID, li .i64 x.At.X, li .i64 x.At.Y, li .i64 x.F.a0.N, ls x.F.a0.Text, li .i64 x.F.a1.N, ls x.F.a1.Text, li .i64 x.F.a2.N, ls x.F.a2.Text, li .i64 x.F.a3.N, ls x.F.a3.Text]
def Thing.cod : Cod Thing := ⟨11, Thing.cells⟩
structure Delta where
 ID : Int
 Mask : Int
 At : Point
 F : (A4 Field)
 deriving DecidableEq
def Delta.cells (x : Delta) : List Lf := [li .i64 x.ID, li .u8 x.Mask, li .i64 x.At.X, li .i64 x.At.Y, li .i64 x.F.a0.N, ls x.F.a0.Text, li .i64 x.F.a1.N, ls x.F.a1.Text, li .i64 x.F.a2.N, ls x.F.a2.Text, li .i64 x.F.a3.N, ls x.F.a3.Text]
def Delta.cod : Cod Delta := ⟨12, Delta.cells⟩
structure Event where
 Kind : Int
 ID : Int
 Thing : Thing
 Delta : Delta
 deriving DecidableEq
def Event.cells (x : Event) : List Lf := [li .i64 x.Kind, li .i64 x.ID, li .i64 x.Thing.ID, li .i64 x.Thing.At.X, li .i64 x.Thing.At.Y, li .i64 x.Thing.F.a0.N, ls x.Thing.F.a0.Text, li .i64 x.Thing.F.a1.N, ls x.Thing.F.a1.Text, li .i64 x.Thing.F.a2.N, ls x.Thing.F.a2.Text, li .i64 x.Thing.F.a3.N, ls x.Thing.F.a3.Text, li .i64 x.Delta.ID, li .u8 x.Delta.Mask, li .i64 x.Delta.At.X, li .i64 x.Delta.At.Y, li .i64 x.Delta.F.a0.N, ls x.Delta.F.a0.Text, li .i64 x.Delta.F.a1.N, ls x.Delta.F.a1.Text, li .i64 x.Delta.F.a2.N, ls x.Delta.F.a2.Text, li .i64 x.Delta.F.a3.N, ls x.Delta.F.a3.Text]
def Event.cod : Cod Event := ⟨25, Event.cells⟩
structure Key where
 from_ : Int
 beat : Int
 deriving DecidableEq
def Key.cells (x : Key) : List Lf := [li .i64 x.from_, li .i64 x.beat]
def Key.cod : Cod Key := ⟨2, Key.cells⟩
structure View where
 client : Int
 session : Int
 n : Int
 beat : Int
 start : Int
 things : (List Thing)
 log_ : (List Event)
 wait : (List (Key × (List Event)))
 deriving DecidableEq
structure Frame where
 From : Int
 Client : Int
 Session : Int
 Start : Int
 Beat : Int
 Events : (List Event)
 deriving DecidableEq
def Frame.cells (x : Frame) : List Lf := [li .i64 x.From, li .i64 x.Client, li .i64 x.Session, li .i64 x.Start, li .i64 x.Beat, vw Event.cod x.Events]
def Frame.cod : Cod Frame := ⟨6, Frame.cells⟩
structure View_vedetteref19 where
 Client : Int
 Session : Int
 N : Int
 Start : Int
 Beat : Int
 L : (List Thing)
 Log : (List Event)
 Wait : (List Frame)
 deriving DecidableEq
structure Hand where
 Cell : Int
 To : Int
 deriving DecidableEq
def Hand.cells (x : Hand) : List Lf := [li .i64 x.Cell, li .i64 x.To]
def Hand.cod : Cod Hand := ⟨2, Hand.cells⟩
structure Rect where
 X0 : Int
 Y0 : Int
 X1 : Int
 Y1 : Int
 deriving DecidableEq
def Rect.cells (x : Rect) : List Lf := [li .i64 x.X0, li .i64 x.Y0, li .i64 x.X1, li .i64 x.Y1]
def Rect.cod : Cod Rect := ⟨4, Rect.cells⟩
structure Command where
 Kind : Int
 ID : Int
 Which : Int
 To : Int
 At : Point
 F : (A4 Field)
 Value : Field
 Client : Int
 Session : Int
 Rect : Rect
 deriving DecidableEq
def Command.cells (x : Command) : List Lf := [li .i64 x.Kind, li .i64 x.ID, li .i64 x.Which, li .i64 x.To, li .i64 x.At.X, li .i64 x.At.Y, li .i64 x.F.a0.N, ls x.F.a0.Text, li .i64 x.F.a1.N, ls x.F.a1.Text, li .i64 x.F.a2.N, ls x.F.a2.Text, li .i64 x.F.a3.N, ls x.F.a3.Text, li .i64 x.Value.N, ls x.Value.Text, li .i64 x.Client, li .i64 x.Session, li .i64 x.Rect.X0, li .i64 x.Rect.Y0, li .i64 x.Rect.X1, li .i64 x.Rect.Y1]
def Command.cod : Cod Command := ⟨22, Command.cells⟩
structure Note where
 From : Int
 Beat : Int
 Moved : (List Thing)
 Hands : (List Hand)
 Given : (List Thing)
 Watch : (List Command)
 deriving DecidableEq
def Note.cells (x : Note) : List Lf := [li .i64 x.From, li .i64 x.Beat, vw Thing.cod x.Moved, vw Hand.cod x.Hands, vw Thing.cod x.Given, vw Command.cod x.Watch]
def Note.cod : Cod Note := ⟨6, Note.cells⟩
structure Packet where
 From : Int
 To : Int
 Kind : Int
 Seq : Int
 C : Command
 E : Int
 ID : Int
 N : Note
 F : Frame
 Session : Int
 Beat : Int
 deriving DecidableEq
def Packet.cells (x : Packet) : List Lf := [li .i64 x.From, li .i64 x.To, li .i64 x.Kind, li .i64 x.Seq, li .i64 x.C.Kind, li .i64 x.C.ID, li .i64 x.C.Which, li .i64 x.C.To, li .i64 x.C.At.X, li .i64 x.C.At.Y, li .i64 x.C.F.a0.N, ls x.C.F.a0.Text, li .i64 x.C.F.a1.N, ls x.C.F.a1.Text, li .i64 x.C.F.a2.N, ls x.C.F.a2.Text, li .i64 x.C.F.a3.N, ls x.C.F.a3.Text, li .i64 x.C.Value.N, ls x.C.Value.Text, li .i64 x.C.Client, li .i64 x.C.Session, li .i64 x.C.Rect.X0, li .i64 x.C.Rect.Y0, li .i64 x.C.Rect.X1, li .i64 x.C.Rect.Y1, li .i64 x.E, li .i64 x.ID, li .i64 x.N.From, li .i64 x.N.Beat, vw Thing.cod x.N.Moved, vw Hand.cod x.N.Hands, vw Thing.cod x.N.Given, vw Command.cod x.N.Watch, li .i64 x.F.From, li .i64 x.F.Client, li .i64 x.F.Session, li .i64 x.F.Start, li .i64 x.F.Beat, vw Event.cod x.F.Events, li .i64 x.Session, li .i64 x.Beat]
def Packet.cod : Cod Packet := ⟨42, Packet.cells⟩
structure Client where
 id_ : Int
 n : Int
 session : Int
 v : View
 asked : Packet
 busy : Bool
 seq : Int
 thing : Int
 e : Int
 deriving DecidableEq
structure Step where
 What : Int
 To : Int
 C : Command
 P : Packet
 deriving DecidableEq
def Step.cells (x : Step) : List Lf := [li .i64 x.What, li .i64 x.To, li .i64 x.C.Kind, li .i64 x.C.ID, li .i64 x.C.Which, li .i64 x.C.To, li .i64 x.C.At.X, li .i64 x.C.At.Y, li .i64 x.C.F.a0.N, ls x.C.F.a0.Text, li .i64 x.C.F.a1.N, ls x.C.F.a1.Text, li .i64 x.C.F.a2.N, ls x.C.F.a2.Text, li .i64 x.C.F.a3.N, ls x.C.F.a3.Text, li .i64 x.C.Value.N, ls x.C.Value.Text, li .i64 x.C.Client, li .i64 x.C.Session, li .i64 x.C.Rect.X0, li .i64 x.C.Rect.Y0, li .i64 x.C.Rect.X1, li .i64 x.C.Rect.Y1, li .i64 x.P.From, li .i64 x.P.To, li .i64 x.P.Kind, li .i64 x.P.Seq, li .i64 x.P.C.Kind, li .i64 x.P.C.ID, li .i64 x.P.C.Which, li .i64 x.P.C.To, li .i64 x.P.C.At.X, li .i64 x.P.C.At.Y, li .i64 x.P.C.F.a0.N, ls x.P.C.F.a0.Text, li .i64 x.P.C.F.a1.N, ls x.P.C.F.a1.Text, li .i64 x.P.C.F.a2.N, ls x.P.C.F.a2.Text, li .i64 x.P.C.F.a3.N, ls x.P.C.F.a3.Text, li .i64 x.P.C.Value.N, ls x.P.C.Value.Text, li .i64 x.P.C.Client, li .i64 x.P.C.Session, li .i64 x.P.C.Rect.X0, li .i64 x.P.C.Rect.Y0, li .i64 x.P.C.Rect.X1, li .i64 x.P.C.Rect.Y1, li .i64 x.P.E, li .i64 x.P.ID, li .i64 x.P.N.From, li .i64 x.P.N.Beat, vw Thing.cod x.P.N.Moved, vw Hand.cod x.P.N.Hands, vw Thing.cod x.P.N.Given, vw Command.cod x.P.N.Watch, li .i64 x.P.F.From, li .i64 x.P.F.Client, li .i64 x.P.F.Session, li .i64 x.P.F.Start, li .i64 x.P.F.Beat, vw Event.cod x.P.F.Events, li .i64 x.P.Session, li .i64 x.P.Beat]
def Step.cod : Cod Step := ⟨66, Step.cells⟩
structure Client_vedetteref23 where
 Me : Int
 N : Int
 Session : Int
 Seq : Int
 Busy : Bool
 Ask : Packet
 E : Int
 ID : Int
 V : View_vedetteref19
 deriving DecidableEq
def A4_Field.cells (x : (A4 Field)) : List Lf := [li .i64 x.a0.N, ls x.a0.Text, li .i64 x.a1.N, ls x.a1.Text, li .i64 x.a2.N, ls x.a2.Text, li .i64 x.a3.N, ls x.a3.Text]
def Point.eqb (x y : Point) : Bool := [x.X == y.X, x.Y == y.Y].all id
theorem Point_run (x y : Point) (d : Nat) : prun Try.prog (Op.equalIn (d + 2) 49 (.agg #[.int .i64 x.X, .int .i64 x.Y]) (.agg #[.int .i64 y.X, .int .i64 y.Y])) = some (Point.eqb x y) := by
 refine (eqst_run Try.underlying49 (by kernel_rfl) (d + 1) [(_, x.X == y.X), (_, x.Y == y.Y)] rfl ?_).trans (by kernel_rfl)
 intro p hp
 simp only [List.mem_cons, List.not_mem_nil, or_false] at hp
 rcases hp with rfl | rfl
 ·exact ⟨by simp, (.int .i64 x.X), (.int .i64 y.X), by kernel_rfl, by kernel_rfl, eqk_run (k := .i64) Try.underlying3 _ _ _ _⟩
 ·exact ⟨by simp, (.int .i64 x.Y), (.int .i64 y.Y), by kernel_rfl, by kernel_rfl, eqk_run (k := .i64) Try.underlying3 _ _ _ _⟩
theorem Point_eql (x y : Point) (cx cy : Bool) : prun Try.prog ((Prim.bin .eql 49 cx cy).sem [.agg #[.int .i64 x.X, .int .i64 x.Y], .agg #[.int .i64 y.X, .int .i64 y.Y]]) = some (.bool (Point.eqb x y)) := pr_eqst (Point_run x y 9998) (by kernel_rfl) cx cy
theorem Point_eqn (x y : Point) (cx cy : Bool) : prun Try.prog ((Prim.bin .neq 49 cx cy).sem [.agg #[.int .i64 x.X, .int .i64 x.Y], .agg #[.int .i64 y.X, .int .i64 y.Y]]) = some (.bool (!(Point.eqb x y))) := pr_nest (Point_run x y 9998) (by kernel_rfl) cx cy
def Field.eqb (x y : Field) : Bool := [x.N == y.N, x.Text == y.Text].all id
theorem Field_run (x y : Field) (d : Nat) : prun Try.prog (Op.equalIn (d + 2) 51 (.agg #[.int .i64 x.N, .string x.Text]) (.agg #[.int .i64 y.N, .string y.Text])) = some (Field.eqb x y) := by
 refine (eqst_run Try.underlying51 (by kernel_rfl) (d + 1) [(_, x.N == y.N), (_, x.Text == y.Text)] rfl ?_).trans (by kernel_rfl)
 intro p hp
 simp only [List.mem_cons, List.not_mem_nil, or_false] at hp
 rcases hp with rfl | rfl
 ·exact ⟨by simp, (.int .i64 x.N), (.int .i64 y.N), by kernel_rfl, by kernel_rfl, eqk_run (k := .i64) Try.underlying2 _ _ _ _⟩
 ·exact ⟨by simp, (.string x.Text), (.string y.Text), by kernel_rfl, by kernel_rfl, eqstr_run Try.underlying9 _ _ _⟩
theorem Field_eql (x y : Field) (cx cy : Bool) : prun Try.prog ((Prim.bin .eql 51 cx cy).sem [.agg #[.int .i64 x.N, .string x.Text], .agg #[.int .i64 y.N, .string y.Text]]) = some (.bool (Field.eqb x y)) := pr_eqst (Field_run x y 9998) (by kernel_rfl) cx cy
theorem Field_eqn (x y : Field) (cx cy : Bool) : prun Try.prog ((Prim.bin .neq 51 cx cy).sem [.agg #[.int .i64 x.N, .string x.Text], .agg #[.int .i64 y.N, .string y.Text]]) = some (.bool (!(Field.eqb x y))) := pr_nest (Field_run x y 9998) (by kernel_rfl) cx cy
def A4_Field.eqb (x y : (A4 Field)) : Bool := [Field.eqb x.a0 y.a0, Field.eqb x.a1 y.a1, Field.eqb x.a2 y.a2, Field.eqb x.a3 y.a3].all id
theorem A4_Field_run (x y : (A4 Field)) (d : Nat) : prun Try.prog (Op.equalIn (d + 3) 52 (.agg #[.int .i64 x.a0.N, .string x.a0.Text, .int .i64 x.a1.N, .string x.a1.Text, .int .i64 x.a2.N, .string x.a2.Text, .int .i64 x.a3.N, .string x.a3.Text]) (.agg #[.int .i64 y.a0.N, .string y.a0.Text, .int .i64 y.a1.N, .string y.a1.Text, .int .i64 y.a2.N, .string y.a2.Text, .int .i64 y.a3.N, .string y.a3.Text])) = some (A4_Field.eqb x y) := by
 refine (eqar_run (e := 51) (n := 4) (sz := 2) Try.underlying52 (by kernel_rfl) (d + 2) [Field.eqb x.a0 y.a0, Field.eqb x.a1 y.a1, Field.eqb x.a2 y.a2, Field.eqb x.a3 y.a3] rfl ?_).trans (by kernel_rfl)
 intro i hi
 match i, hi with
 | 0, _ => exact ⟨(.agg #[.int .i64 x.a0.N, .string x.a0.Text]), (.agg #[.int .i64 y.a0.N, .string y.a0.Text]), by kernel_rfl, by kernel_rfl, Field_run x.a0 y.a0 _⟩
 | 1, _ => exact ⟨(.agg #[.int .i64 x.a1.N, .string x.a1.Text]), (.agg #[.int .i64 y.a1.N, .string y.a1.Text]), by kernel_rfl, by kernel_rfl, Field_run x.a1 y.a1 _⟩
 | 2, _ => exact ⟨(.agg #[.int .i64 x.a2.N, .string x.a2.Text]), (.agg #[.int .i64 y.a2.N, .string y.a2.Text]), by kernel_rfl, by kernel_rfl, Field_run x.a2 y.a2 _⟩
 | 3, _ => exact ⟨(.agg #[.int .i64 x.a3.N, .string x.a3.Text]), (.agg #[.int .i64 y.a3.N, .string y.a3.Text]), by kernel_rfl, by kernel_rfl, Field_run x.a3 y.a3 _⟩
theorem A4_Field_eql (x y : (A4 Field)) (cx cy : Bool) : prun Try.prog ((Prim.bin .eql 52 cx cy).sem [.agg #[.int .i64 x.a0.N, .string x.a0.Text, .int .i64 x.a1.N, .string x.a1.Text, .int .i64 x.a2.N, .string x.a2.Text, .int .i64 x.a3.N, .string x.a3.Text], .agg #[.int .i64 y.a0.N, .string y.a0.Text, .int .i64 y.a1.N, .string y.a1.Text, .int .i64 y.a2.N, .string y.a2.Text, .int .i64 y.a3.N, .string y.a3.Text]]) = some (.bool (A4_Field.eqb x y)) := pr_eqst (A4_Field_run x y 9997) (by kernel_rfl) cx cy
theorem A4_Field_eqn (x y : (A4 Field)) (cx cy : Bool) : prun Try.prog ((Prim.bin .neq 52 cx cy).sem [.agg #[.int .i64 x.a0.N, .string x.a0.Text, .int .i64 x.a1.N, .string x.a1.Text, .int .i64 x.a2.N, .string x.a2.Text, .int .i64 x.a3.N, .string x.a3.Text], .agg #[.int .i64 y.a0.N, .string y.a0.Text, .int .i64 y.a1.N, .string y.a1.Text, .int .i64 y.a2.N, .string y.a2.Text, .int .i64 y.a3.N, .string y.a3.Text]]) = some (.bool (!(A4_Field.eqb x y))) := pr_nest (A4_Field_run x y 9997) (by kernel_rfl) cx cy
def Thing.eqb (x y : Thing) : Bool := [x.ID == y.ID, Point.eqb x.At y.At, A4_Field.eqb x.F y.F].all id
theorem Thing_run (x y : Thing) (d : Nat) : prun Try.prog (Op.equalIn (d + 4) 54 (.agg #[.int .i64 x.ID, .int .i64 x.At.X, .int .i64 x.At.Y, .int .i64 x.F.a0.N, .string x.F.a0.Text, .int .i64 x.F.a1.N, .string x.F.a1.Text, .int .i64 x.F.a2.N, .string x.F.a2.Text, .int .i64 x.F.a3.N, .string x.F.a3.Text]) (.agg #[.int .i64 y.ID, .int .i64 y.At.X, .int .i64 y.At.Y, .int .i64 y.F.a0.N, .string y.F.a0.Text, .int .i64 y.F.a1.N, .string y.F.a1.Text, .int .i64 y.F.a2.N, .string y.F.a2.Text, .int .i64 y.F.a3.N, .string y.F.a3.Text])) = some (Thing.eqb x y) := by
 refine (eqst_run Try.underlying54 (by kernel_rfl) (d + 3) [(_, x.ID == y.ID), (_, Point.eqb x.At y.At), (_, A4_Field.eqb x.F y.F)] rfl ?_).trans (by kernel_rfl)
 intro p hp
 simp only [List.mem_cons, List.not_mem_nil, or_false] at hp
 rcases hp with rfl | rfl | rfl
 ·exact ⟨by simp, (.int .i64 x.ID), (.int .i64 y.ID), by kernel_rfl, by kernel_rfl, eqk_run (k := .i64) Try.underlying3 _ _ _ _⟩
 ·exact ⟨by simp, (.agg #[.int .i64 x.At.X, .int .i64 x.At.Y]), (.agg #[.int .i64 y.At.X, .int .i64 y.At.Y]), by kernel_rfl, by kernel_rfl, Point_run x.At y.At _⟩
 ·exact ⟨by simp, (.agg #[.int .i64 x.F.a0.N, .string x.F.a0.Text, .int .i64 x.F.a1.N, .string x.F.a1.Text, .int .i64 x.F.a2.N, .string x.F.a2.Text, .int .i64 x.F.a3.N, .string x.F.a3.Text]), (.agg #[.int .i64 y.F.a0.N, .string y.F.a0.Text, .int .i64 y.F.a1.N, .string y.F.a1.Text, .int .i64 y.F.a2.N, .string y.F.a2.Text, .int .i64 y.F.a3.N, .string y.F.a3.Text]), by kernel_rfl, by kernel_rfl, A4_Field_run x.F y.F _⟩
theorem Thing_eql (x y : Thing) (cx cy : Bool) : prun Try.prog ((Prim.bin .eql 54 cx cy).sem [.agg #[.int .i64 x.ID, .int .i64 x.At.X, .int .i64 x.At.Y, .int .i64 x.F.a0.N, .string x.F.a0.Text, .int .i64 x.F.a1.N, .string x.F.a1.Text, .int .i64 x.F.a2.N, .string x.F.a2.Text, .int .i64 x.F.a3.N, .string x.F.a3.Text], .agg #[.int .i64 y.ID, .int .i64 y.At.X, .int .i64 y.At.Y, .int .i64 y.F.a0.N, .string y.F.a0.Text, .int .i64 y.F.a1.N, .string y.F.a1.Text, .int .i64 y.F.a2.N, .string y.F.a2.Text, .int .i64 y.F.a3.N, .string y.F.a3.Text]]) = some (.bool (Thing.eqb x y)) := pr_eqst (Thing_run x y 9996) (by kernel_rfl) cx cy
theorem Thing_eqn (x y : Thing) (cx cy : Bool) : prun Try.prog ((Prim.bin .neq 54 cx cy).sem [.agg #[.int .i64 x.ID, .int .i64 x.At.X, .int .i64 x.At.Y, .int .i64 x.F.a0.N, .string x.F.a0.Text, .int .i64 x.F.a1.N, .string x.F.a1.Text, .int .i64 x.F.a2.N, .string x.F.a2.Text, .int .i64 x.F.a3.N, .string x.F.a3.Text], .agg #[.int .i64 y.ID, .int .i64 y.At.X, .int .i64 y.At.Y, .int .i64 y.F.a0.N, .string y.F.a0.Text, .int .i64 y.F.a1.N, .string y.F.a1.Text, .int .i64 y.F.a2.N, .string y.F.a2.Text, .int .i64 y.F.a3.N, .string y.F.a3.Text]]) = some (.bool (!(Thing.eqb x y))) := pr_nest (Thing_run x y 9996) (by kernel_rfl) cx cy
def Delta.eqb (x y : Delta) : Bool := [x.ID == y.ID, x.Mask == y.Mask, Point.eqb x.At y.At, A4_Field.eqb x.F y.F].all id
theorem Delta_run (x y : Delta) (d : Nat) : prun Try.prog (Op.equalIn (d + 4) 56 (.agg #[.int .i64 x.ID, .int .u8 x.Mask, .int .i64 x.At.X, .int .i64 x.At.Y, .int .i64 x.F.a0.N, .string x.F.a0.Text, .int .i64 x.F.a1.N, .string x.F.a1.Text, .int .i64 x.F.a2.N, .string x.F.a2.Text, .int .i64 x.F.a3.N, .string x.F.a3.Text]) (.agg #[.int .i64 y.ID, .int .u8 y.Mask, .int .i64 y.At.X, .int .i64 y.At.Y, .int .i64 y.F.a0.N, .string y.F.a0.Text, .int .i64 y.F.a1.N, .string y.F.a1.Text, .int .i64 y.F.a2.N, .string y.F.a2.Text, .int .i64 y.F.a3.N, .string y.F.a3.Text])) = some (Delta.eqb x y) := by
 refine (eqst_run Try.underlying56 (by kernel_rfl) (d + 3) [(_, x.ID == y.ID), (_, x.Mask == y.Mask), (_, Point.eqb x.At y.At), (_, A4_Field.eqb x.F y.F)] rfl ?_).trans (by kernel_rfl)
 intro p hp
 simp only [List.mem_cons, List.not_mem_nil, or_false] at hp
 rcases hp with rfl | rfl | rfl | rfl
 ·exact ⟨by simp, (.int .i64 x.ID), (.int .i64 y.ID), by kernel_rfl, by kernel_rfl, eqk_run (k := .i64) Try.underlying3 _ _ _ _⟩
 ·exact ⟨by simp, (.int .u8 x.Mask), (.int .u8 y.Mask), by kernel_rfl, by kernel_rfl, eqk_run (k := .u8) Try.underlying5 _ _ _ _⟩
 ·exact ⟨by simp, (.agg #[.int .i64 x.At.X, .int .i64 x.At.Y]), (.agg #[.int .i64 y.At.X, .int .i64 y.At.Y]), by kernel_rfl, by kernel_rfl, Point_run x.At y.At _⟩
 ·exact ⟨by simp, (.agg #[.int .i64 x.F.a0.N, .string x.F.a0.Text, .int .i64 x.F.a1.N, .string x.F.a1.Text, .int .i64 x.F.a2.N, .string x.F.a2.Text, .int .i64 x.F.a3.N, .string x.F.a3.Text]), (.agg #[.int .i64 y.F.a0.N, .string y.F.a0.Text, .int .i64 y.F.a1.N, .string y.F.a1.Text, .int .i64 y.F.a2.N, .string y.F.a2.Text, .int .i64 y.F.a3.N, .string y.F.a3.Text]), by kernel_rfl, by kernel_rfl, A4_Field_run x.F y.F _⟩
theorem Delta_eql (x y : Delta) (cx cy : Bool) : prun Try.prog ((Prim.bin .eql 56 cx cy).sem [.agg #[.int .i64 x.ID, .int .u8 x.Mask, .int .i64 x.At.X, .int .i64 x.At.Y, .int .i64 x.F.a0.N, .string x.F.a0.Text, .int .i64 x.F.a1.N, .string x.F.a1.Text, .int .i64 x.F.a2.N, .string x.F.a2.Text, .int .i64 x.F.a3.N, .string x.F.a3.Text], .agg #[.int .i64 y.ID, .int .u8 y.Mask, .int .i64 y.At.X, .int .i64 y.At.Y, .int .i64 y.F.a0.N, .string y.F.a0.Text, .int .i64 y.F.a1.N, .string y.F.a1.Text, .int .i64 y.F.a2.N, .string y.F.a2.Text, .int .i64 y.F.a3.N, .string y.F.a3.Text]]) = some (.bool (Delta.eqb x y)) := pr_eqst (Delta_run x y 9996) (by kernel_rfl) cx cy
theorem Delta_eqn (x y : Delta) (cx cy : Bool) : prun Try.prog ((Prim.bin .neq 56 cx cy).sem [.agg #[.int .i64 x.ID, .int .u8 x.Mask, .int .i64 x.At.X, .int .i64 x.At.Y, .int .i64 x.F.a0.N, .string x.F.a0.Text, .int .i64 x.F.a1.N, .string x.F.a1.Text, .int .i64 x.F.a2.N, .string x.F.a2.Text, .int .i64 x.F.a3.N, .string x.F.a3.Text], .agg #[.int .i64 y.ID, .int .u8 y.Mask, .int .i64 y.At.X, .int .i64 y.At.Y, .int .i64 y.F.a0.N, .string y.F.a0.Text, .int .i64 y.F.a1.N, .string y.F.a1.Text, .int .i64 y.F.a2.N, .string y.F.a2.Text, .int .i64 y.F.a3.N, .string y.F.a3.Text]]) = some (.bool (!(Delta.eqb x y))) := pr_nest (Delta_run x y 9996) (by kernel_rfl) cx cy
def Event.eqb (x y : Event) : Bool := [x.Kind == y.Kind, x.ID == y.ID, Thing.eqb x.Thing y.Thing, Delta.eqb x.Delta y.Delta].all id
theorem Event_run (x y : Event) (d : Nat) : prun Try.prog (Op.equalIn (d + 5) 58 (.agg #[.int .i64 x.Kind, .int .i64 x.ID, .int .i64 x.Thing.ID, .int .i64 x.Thing.At.X, .int .i64 x.Thing.At.Y, .int .i64 x.Thing.F.a0.N, .string x.Thing.F.a0.Text, .int .i64 x.Thing.F.a1.N, .string x.Thing.F.a1.Text, .int .i64 x.Thing.F.a2.N, .string x.Thing.F.a2.Text, .int .i64 x.Thing.F.a3.N, .string x.Thing.F.a3.Text, .int .i64 x.Delta.ID, .int .u8 x.Delta.Mask, .int .i64 x.Delta.At.X, .int .i64 x.Delta.At.Y, .int .i64 x.Delta.F.a0.N, .string x.Delta.F.a0.Text, .int .i64 x.Delta.F.a1.N, .string x.Delta.F.a1.Text, .int .i64 x.Delta.F.a2.N, .string x.Delta.F.a2.Text, .int .i64 x.Delta.F.a3.N, .string x.Delta.F.a3.Text]) (.agg #[.int .i64 y.Kind, .int .i64 y.ID, .int .i64 y.Thing.ID, .int .i64 y.Thing.At.X, .int .i64 y.Thing.At.Y, .int .i64 y.Thing.F.a0.N, .string y.Thing.F.a0.Text, .int .i64 y.Thing.F.a1.N, .string y.Thing.F.a1.Text, .int .i64 y.Thing.F.a2.N, .string y.Thing.F.a2.Text, .int .i64 y.Thing.F.a3.N, .string y.Thing.F.a3.Text, .int .i64 y.Delta.ID, .int .u8 y.Delta.Mask, .int .i64 y.Delta.At.X, .int .i64 y.Delta.At.Y, .int .i64 y.Delta.F.a0.N, .string y.Delta.F.a0.Text, .int .i64 y.Delta.F.a1.N, .string y.Delta.F.a1.Text, .int .i64 y.Delta.F.a2.N, .string y.Delta.F.a2.Text, .int .i64 y.Delta.F.a3.N, .string y.Delta.F.a3.Text])) = some (Event.eqb x y) := by
 refine (eqst_run Try.underlying58 (by kernel_rfl) (d + 4) [(_, x.Kind == y.Kind), (_, x.ID == y.ID), (_, Thing.eqb x.Thing y.Thing), (_, Delta.eqb x.Delta y.Delta)] rfl ?_).trans (by kernel_rfl)
 intro p hp
 simp only [List.mem_cons, List.not_mem_nil, or_false] at hp
 rcases hp with rfl | rfl | rfl | rfl
 ·exact ⟨by simp, (.int .i64 x.Kind), (.int .i64 y.Kind), by kernel_rfl, by kernel_rfl, eqk_run (k := .i64) Try.underlying3 _ _ _ _⟩
 ·exact ⟨by simp, (.int .i64 x.ID), (.int .i64 y.ID), by kernel_rfl, by kernel_rfl, eqk_run (k := .i64) Try.underlying3 _ _ _ _⟩
 ·exact ⟨by simp, (.agg #[.int .i64 x.Thing.ID, .int .i64 x.Thing.At.X, .int .i64 x.Thing.At.Y, .int .i64 x.Thing.F.a0.N, .string x.Thing.F.a0.Text, .int .i64 x.Thing.F.a1.N, .string x.Thing.F.a1.Text, .int .i64 x.Thing.F.a2.N, .string x.Thing.F.a2.Text, .int .i64 x.Thing.F.a3.N, .string x.Thing.F.a3.Text]), (.agg #[.int .i64 y.Thing.ID, .int .i64 y.Thing.At.X, .int .i64 y.Thing.At.Y, .int .i64 y.Thing.F.a0.N, .string y.Thing.F.a0.Text, .int .i64 y.Thing.F.a1.N, .string y.Thing.F.a1.Text, .int .i64 y.Thing.F.a2.N, .string y.Thing.F.a2.Text, .int .i64 y.Thing.F.a3.N, .string y.Thing.F.a3.Text]), by kernel_rfl, by kernel_rfl, Thing_run x.Thing y.Thing _⟩
 ·exact ⟨by simp, (.agg #[.int .i64 x.Delta.ID, .int .u8 x.Delta.Mask, .int .i64 x.Delta.At.X, .int .i64 x.Delta.At.Y, .int .i64 x.Delta.F.a0.N, .string x.Delta.F.a0.Text, .int .i64 x.Delta.F.a1.N, .string x.Delta.F.a1.Text, .int .i64 x.Delta.F.a2.N, .string x.Delta.F.a2.Text, .int .i64 x.Delta.F.a3.N, .string x.Delta.F.a3.Text]), (.agg #[.int .i64 y.Delta.ID, .int .u8 y.Delta.Mask, .int .i64 y.Delta.At.X, .int .i64 y.Delta.At.Y, .int .i64 y.Delta.F.a0.N, .string y.Delta.F.a0.Text, .int .i64 y.Delta.F.a1.N, .string y.Delta.F.a1.Text, .int .i64 y.Delta.F.a2.N, .string y.Delta.F.a2.Text, .int .i64 y.Delta.F.a3.N, .string y.Delta.F.a3.Text]), by kernel_rfl, by kernel_rfl, Delta_run x.Delta y.Delta _⟩
theorem Event_eql (x y : Event) (cx cy : Bool) : prun Try.prog ((Prim.bin .eql 58 cx cy).sem [.agg #[.int .i64 x.Kind, .int .i64 x.ID, .int .i64 x.Thing.ID, .int .i64 x.Thing.At.X, .int .i64 x.Thing.At.Y, .int .i64 x.Thing.F.a0.N, .string x.Thing.F.a0.Text, .int .i64 x.Thing.F.a1.N, .string x.Thing.F.a1.Text, .int .i64 x.Thing.F.a2.N, .string x.Thing.F.a2.Text, .int .i64 x.Thing.F.a3.N, .string x.Thing.F.a3.Text, .int .i64 x.Delta.ID, .int .u8 x.Delta.Mask, .int .i64 x.Delta.At.X, .int .i64 x.Delta.At.Y, .int .i64 x.Delta.F.a0.N, .string x.Delta.F.a0.Text, .int .i64 x.Delta.F.a1.N, .string x.Delta.F.a1.Text, .int .i64 x.Delta.F.a2.N, .string x.Delta.F.a2.Text, .int .i64 x.Delta.F.a3.N, .string x.Delta.F.a3.Text], .agg #[.int .i64 y.Kind, .int .i64 y.ID, .int .i64 y.Thing.ID, .int .i64 y.Thing.At.X, .int .i64 y.Thing.At.Y, .int .i64 y.Thing.F.a0.N, .string y.Thing.F.a0.Text, .int .i64 y.Thing.F.a1.N, .string y.Thing.F.a1.Text, .int .i64 y.Thing.F.a2.N, .string y.Thing.F.a2.Text, .int .i64 y.Thing.F.a3.N, .string y.Thing.F.a3.Text, .int .i64 y.Delta.ID, .int .u8 y.Delta.Mask, .int .i64 y.Delta.At.X, .int .i64 y.Delta.At.Y, .int .i64 y.Delta.F.a0.N, .string y.Delta.F.a0.Text, .int .i64 y.Delta.F.a1.N, .string y.Delta.F.a1.Text, .int .i64 y.Delta.F.a2.N, .string y.Delta.F.a2.Text, .int .i64 y.Delta.F.a3.N, .string y.Delta.F.a3.Text]]) = some (.bool (Event.eqb x y)) := pr_eqst (Event_run x y 9995) (by kernel_rfl) cx cy
theorem Event_eqn (x y : Event) (cx cy : Bool) : prun Try.prog ((Prim.bin .neq 58 cx cy).sem [.agg #[.int .i64 x.Kind, .int .i64 x.ID, .int .i64 x.Thing.ID, .int .i64 x.Thing.At.X, .int .i64 x.Thing.At.Y, .int .i64 x.Thing.F.a0.N, .string x.Thing.F.a0.Text, .int .i64 x.Thing.F.a1.N, .string x.Thing.F.a1.Text, .int .i64 x.Thing.F.a2.N, .string x.Thing.F.a2.Text, .int .i64 x.Thing.F.a3.N, .string x.Thing.F.a3.Text, .int .i64 x.Delta.ID, .int .u8 x.Delta.Mask, .int .i64 x.Delta.At.X, .int .i64 x.Delta.At.Y, .int .i64 x.Delta.F.a0.N, .string x.Delta.F.a0.Text, .int .i64 x.Delta.F.a1.N, .string x.Delta.F.a1.Text, .int .i64 x.Delta.F.a2.N, .string x.Delta.F.a2.Text, .int .i64 x.Delta.F.a3.N, .string x.Delta.F.a3.Text], .agg #[.int .i64 y.Kind, .int .i64 y.ID, .int .i64 y.Thing.ID, .int .i64 y.Thing.At.X, .int .i64 y.Thing.At.Y, .int .i64 y.Thing.F.a0.N, .string y.Thing.F.a0.Text, .int .i64 y.Thing.F.a1.N, .string y.Thing.F.a1.Text, .int .i64 y.Thing.F.a2.N, .string y.Thing.F.a2.Text, .int .i64 y.Thing.F.a3.N, .string y.Thing.F.a3.Text, .int .i64 y.Delta.ID, .int .u8 y.Delta.Mask, .int .i64 y.Delta.At.X, .int .i64 y.Delta.At.Y, .int .i64 y.Delta.F.a0.N, .string y.Delta.F.a0.Text, .int .i64 y.Delta.F.a1.N, .string y.Delta.F.a1.Text, .int .i64 y.Delta.F.a2.N, .string y.Delta.F.a2.Text, .int .i64 y.Delta.F.a3.N, .string y.Delta.F.a3.Text]]) = some (.bool (!(Event.eqb x y))) := pr_nest (Event_run x y 9995) (by kernel_rfl) cx cy
def Rect.eqb (x y : Rect) : Bool := [x.X0 == y.X0, x.Y0 == y.Y0, x.X1 == y.X1, x.Y1 == y.Y1].all id
theorem Rect_run (x y : Rect) (d : Nat) : prun Try.prog (Op.equalIn (d + 2) 61 (.agg #[.int .i64 x.X0, .int .i64 x.Y0, .int .i64 x.X1, .int .i64 x.Y1]) (.agg #[.int .i64 y.X0, .int .i64 y.Y0, .int .i64 y.X1, .int .i64 y.Y1])) = some (Rect.eqb x y) := by
 refine (eqst_run Try.underlying61 (by kernel_rfl) (d + 1) [(_, x.X0 == y.X0), (_, x.Y0 == y.Y0), (_, x.X1 == y.X1), (_, x.Y1 == y.Y1)] rfl ?_).trans (by kernel_rfl)
 intro p hp
 simp only [List.mem_cons, List.not_mem_nil, or_false] at hp
 rcases hp with rfl | rfl | rfl | rfl
 ·exact ⟨by simp, (.int .i64 x.X0), (.int .i64 y.X0), by kernel_rfl, by kernel_rfl, eqk_run (k := .i64) Try.underlying3 _ _ _ _⟩
 ·exact ⟨by simp, (.int .i64 x.Y0), (.int .i64 y.Y0), by kernel_rfl, by kernel_rfl, eqk_run (k := .i64) Try.underlying3 _ _ _ _⟩
 ·exact ⟨by simp, (.int .i64 x.X1), (.int .i64 y.X1), by kernel_rfl, by kernel_rfl, eqk_run (k := .i64) Try.underlying3 _ _ _ _⟩
 ·exact ⟨by simp, (.int .i64 x.Y1), (.int .i64 y.Y1), by kernel_rfl, by kernel_rfl, eqk_run (k := .i64) Try.underlying3 _ _ _ _⟩
theorem Rect_eql (x y : Rect) (cx cy : Bool) : prun Try.prog ((Prim.bin .eql 61 cx cy).sem [.agg #[.int .i64 x.X0, .int .i64 x.Y0, .int .i64 x.X1, .int .i64 x.Y1], .agg #[.int .i64 y.X0, .int .i64 y.Y0, .int .i64 y.X1, .int .i64 y.Y1]]) = some (.bool (Rect.eqb x y)) := pr_eqst (Rect_run x y 9998) (by kernel_rfl) cx cy
theorem Rect_eqn (x y : Rect) (cx cy : Bool) : prun Try.prog ((Prim.bin .neq 61 cx cy).sem [.agg #[.int .i64 x.X0, .int .i64 x.Y0, .int .i64 x.X1, .int .i64 x.Y1], .agg #[.int .i64 y.X0, .int .i64 y.Y0, .int .i64 y.X1, .int .i64 y.Y1]]) = some (.bool (!(Rect.eqb x y))) := pr_nest (Rect_run x y 9998) (by kernel_rfl) cx cy
def Command.eqb (x y : Command) : Bool := [x.Kind == y.Kind, x.ID == y.ID, x.Which == y.Which, x.To == y.To, Point.eqb x.At y.At, A4_Field.eqb x.F y.F, Field.eqb x.Value y.Value, x.Client == y.Client, x.Session == y.Session, Rect.eqb x.Rect y.Rect].all id
theorem Command_run (x y : Command) (d : Nat) : prun Try.prog (Op.equalIn (d + 4) 63 (.agg #[.int .i64 x.Kind, .int .i64 x.ID, .int .i64 x.Which, .int .i64 x.To, .int .i64 x.At.X, .int .i64 x.At.Y, .int .i64 x.F.a0.N, .string x.F.a0.Text, .int .i64 x.F.a1.N, .string x.F.a1.Text, .int .i64 x.F.a2.N, .string x.F.a2.Text, .int .i64 x.F.a3.N, .string x.F.a3.Text, .int .i64 x.Value.N, .string x.Value.Text, .int .i64 x.Client, .int .i64 x.Session, .int .i64 x.Rect.X0, .int .i64 x.Rect.Y0, .int .i64 x.Rect.X1, .int .i64 x.Rect.Y1]) (.agg #[.int .i64 y.Kind, .int .i64 y.ID, .int .i64 y.Which, .int .i64 y.To, .int .i64 y.At.X, .int .i64 y.At.Y, .int .i64 y.F.a0.N, .string y.F.a0.Text, .int .i64 y.F.a1.N, .string y.F.a1.Text, .int .i64 y.F.a2.N, .string y.F.a2.Text, .int .i64 y.F.a3.N, .string y.F.a3.Text, .int .i64 y.Value.N, .string y.Value.Text, .int .i64 y.Client, .int .i64 y.Session, .int .i64 y.Rect.X0, .int .i64 y.Rect.Y0, .int .i64 y.Rect.X1, .int .i64 y.Rect.Y1])) = some (Command.eqb x y) := by
 refine (eqst_run Try.underlying63 (by kernel_rfl) (d + 3) [(_, x.Kind == y.Kind), (_, x.ID == y.ID), (_, x.Which == y.Which), (_, x.To == y.To), (_, Point.eqb x.At y.At), (_, A4_Field.eqb x.F y.F), (_, Field.eqb x.Value y.Value), (_, x.Client == y.Client), (_, x.Session == y.Session), (_, Rect.eqb x.Rect y.Rect)] rfl ?_).trans (by kernel_rfl)
 intro p hp
 simp only [List.mem_cons, List.not_mem_nil, or_false] at hp
 rcases hp with rfl | rfl | rfl | rfl | rfl | rfl | rfl | rfl | rfl | rfl
 ·exact ⟨by simp, (.int .i64 x.Kind), (.int .i64 y.Kind), by kernel_rfl, by kernel_rfl, eqk_run (k := .i64) Try.underlying3 _ _ _ _⟩
 ·exact ⟨by simp, (.int .i64 x.ID), (.int .i64 y.ID), by kernel_rfl, by kernel_rfl, eqk_run (k := .i64) Try.underlying3 _ _ _ _⟩
 ·exact ⟨by simp, (.int .i64 x.Which), (.int .i64 y.Which), by kernel_rfl, by kernel_rfl, eqk_run (k := .i64) Try.underlying3 _ _ _ _⟩
 ·exact ⟨by simp, (.int .i64 x.To), (.int .i64 y.To), by kernel_rfl, by kernel_rfl, eqk_run (k := .i64) Try.underlying3 _ _ _ _⟩
 ·exact ⟨by simp, (.agg #[.int .i64 x.At.X, .int .i64 x.At.Y]), (.agg #[.int .i64 y.At.X, .int .i64 y.At.Y]), by kernel_rfl, by kernel_rfl, Point_run x.At y.At _⟩
 ·exact ⟨by simp, (.agg #[.int .i64 x.F.a0.N, .string x.F.a0.Text, .int .i64 x.F.a1.N, .string x.F.a1.Text, .int .i64 x.F.a2.N, .string x.F.a2.Text, .int .i64 x.F.a3.N, .string x.F.a3.Text]), (.agg #[.int .i64 y.F.a0.N, .string y.F.a0.Text, .int .i64 y.F.a1.N, .string y.F.a1.Text, .int .i64 y.F.a2.N, .string y.F.a2.Text, .int .i64 y.F.a3.N, .string y.F.a3.Text]), by kernel_rfl, by kernel_rfl, A4_Field_run x.F y.F _⟩
 ·exact ⟨by simp, (.agg #[.int .i64 x.Value.N, .string x.Value.Text]), (.agg #[.int .i64 y.Value.N, .string y.Value.Text]), by kernel_rfl, by kernel_rfl, Field_run x.Value y.Value _⟩
 ·exact ⟨by simp, (.int .i64 x.Client), (.int .i64 y.Client), by kernel_rfl, by kernel_rfl, eqk_run (k := .i64) Try.underlying3 _ _ _ _⟩
 ·exact ⟨by simp, (.int .i64 x.Session), (.int .i64 y.Session), by kernel_rfl, by kernel_rfl, eqk_run (k := .i64) Try.underlying3 _ _ _ _⟩
 ·exact ⟨by simp, (.agg #[.int .i64 x.Rect.X0, .int .i64 x.Rect.Y0, .int .i64 x.Rect.X1, .int .i64 x.Rect.Y1]), (.agg #[.int .i64 y.Rect.X0, .int .i64 y.Rect.Y0, .int .i64 y.Rect.X1, .int .i64 y.Rect.Y1]), by kernel_rfl, by kernel_rfl, Rect_run x.Rect y.Rect _⟩
theorem Command_eql (x y : Command) (cx cy : Bool) : prun Try.prog ((Prim.bin .eql 63 cx cy).sem [.agg #[.int .i64 x.Kind, .int .i64 x.ID, .int .i64 x.Which, .int .i64 x.To, .int .i64 x.At.X, .int .i64 x.At.Y, .int .i64 x.F.a0.N, .string x.F.a0.Text, .int .i64 x.F.a1.N, .string x.F.a1.Text, .int .i64 x.F.a2.N, .string x.F.a2.Text, .int .i64 x.F.a3.N, .string x.F.a3.Text, .int .i64 x.Value.N, .string x.Value.Text, .int .i64 x.Client, .int .i64 x.Session, .int .i64 x.Rect.X0, .int .i64 x.Rect.Y0, .int .i64 x.Rect.X1, .int .i64 x.Rect.Y1], .agg #[.int .i64 y.Kind, .int .i64 y.ID, .int .i64 y.Which, .int .i64 y.To, .int .i64 y.At.X, .int .i64 y.At.Y, .int .i64 y.F.a0.N, .string y.F.a0.Text, .int .i64 y.F.a1.N, .string y.F.a1.Text, .int .i64 y.F.a2.N, .string y.F.a2.Text, .int .i64 y.F.a3.N, .string y.F.a3.Text, .int .i64 y.Value.N, .string y.Value.Text, .int .i64 y.Client, .int .i64 y.Session, .int .i64 y.Rect.X0, .int .i64 y.Rect.Y0, .int .i64 y.Rect.X1, .int .i64 y.Rect.Y1]]) = some (.bool (Command.eqb x y)) := pr_eqst (Command_run x y 9996) (by kernel_rfl) cx cy
theorem Command_eqn (x y : Command) (cx cy : Bool) : prun Try.prog ((Prim.bin .neq 63 cx cy).sem [.agg #[.int .i64 x.Kind, .int .i64 x.ID, .int .i64 x.Which, .int .i64 x.To, .int .i64 x.At.X, .int .i64 x.At.Y, .int .i64 x.F.a0.N, .string x.F.a0.Text, .int .i64 x.F.a1.N, .string x.F.a1.Text, .int .i64 x.F.a2.N, .string x.F.a2.Text, .int .i64 x.F.a3.N, .string x.F.a3.Text, .int .i64 x.Value.N, .string x.Value.Text, .int .i64 x.Client, .int .i64 x.Session, .int .i64 x.Rect.X0, .int .i64 x.Rect.Y0, .int .i64 x.Rect.X1, .int .i64 x.Rect.Y1], .agg #[.int .i64 y.Kind, .int .i64 y.ID, .int .i64 y.Which, .int .i64 y.To, .int .i64 y.At.X, .int .i64 y.At.Y, .int .i64 y.F.a0.N, .string y.F.a0.Text, .int .i64 y.F.a1.N, .string y.F.a1.Text, .int .i64 y.F.a2.N, .string y.F.a2.Text, .int .i64 y.F.a3.N, .string y.F.a3.Text, .int .i64 y.Value.N, .string y.Value.Text, .int .i64 y.Client, .int .i64 y.Session, .int .i64 y.Rect.X0, .int .i64 y.Rect.Y0, .int .i64 y.Rect.X1, .int .i64 y.Rect.Y1]]) = some (.bool (!(Command.eqb x y))) := pr_nest (Command_run x y 9996) (by kernel_rfl) cx cy
def Key.eqb (x y : Key) : Bool := [x.from_ == y.from_, x.beat == y.beat].all id
theorem Key_run (x y : Key) (d : Nat) : prun Try.prog (Op.equalIn (d + 2) 102 (.agg #[.int .i64 x.from_, .int .i64 x.beat]) (.agg #[.int .i64 y.from_, .int .i64 y.beat])) = some (Key.eqb x y) := by
 refine (eqst_run Try.underlying102 (by kernel_rfl) (d + 1) [(_, x.from_ == y.from_), (_, x.beat == y.beat)] rfl ?_).trans (by kernel_rfl)
 intro p hp
 simp only [List.mem_cons, List.not_mem_nil, or_false] at hp
 rcases hp with rfl | rfl
 ·exact ⟨by simp, (.int .i64 x.from_), (.int .i64 y.from_), by kernel_rfl, by kernel_rfl, eqk_run (k := .i64) Try.underlying3 _ _ _ _⟩
 ·exact ⟨by simp, (.int .i64 x.beat), (.int .i64 y.beat), by kernel_rfl, by kernel_rfl, eqk_run (k := .i64) Try.underlying3 _ _ _ _⟩
theorem Key_eql (x y : Key) (cx cy : Bool) : prun Try.prog ((Prim.bin .eql 102 cx cy).sem [.agg #[.int .i64 x.from_, .int .i64 x.beat], .agg #[.int .i64 y.from_, .int .i64 y.beat]]) = some (.bool (Key.eqb x y)) := pr_eqst (Key_run x y 9998) (by kernel_rfl) cx cy
theorem Key_eqn (x y : Key) (cx cy : Bool) : prun Try.prog ((Prim.bin .neq 102 cx cy).sem [.agg #[.int .i64 x.from_, .int .i64 x.beat], .agg #[.int .i64 y.from_, .int .i64 y.beat]]) = some (.bool (!(Key.eqb x y))) := pr_nest (Key_run x y 9998) (by kernel_rfl) cx cy
def Key.val (x : Key) : Value := .agg #[.int .i64 x.from_, .int .i64 x.beat]
theorem Key_dec (x y : Key) : Key.eqb x y = decide (x = y) := by
 cases x; cases y
 simp only [Key.eqb, List.all_cons, List.all_nil, id, Bool.and_true, Key.mk.injEq, Bool.decide_and]
 rfl
def Key_map : KeyOK Try.prog 97 Key.cells Key.val where
 kt := 102
 e := 30
 key := by kernel_rfl
 val := fun _ => rfl
 chk := fun _ _ => by kernel_rfl
 eq := fun x y => (Key_run x y 9998).trans (congrArg some (Key_dec x y))
 same := fun x => by simp [Instr.sameBits, Key.val]
 zero := by kernel_rfl
abbrev zo (d : Nat) (op : POp) : POper := ⟨some d, op, none, []⟩
abbrev lj (n : Int) : Lf := li .i64 n
abbrev be : ByteArray := ByteArray.empty
abbrev qj (n : Int) : PV := .one (li .i64 n)
abbrev qb (b : Bool) : PV := .one (lb b)
abbrev qs (s : ByteArray) : PV := .one (ls s)
abbrev qp (k o : Nat) : PV := .one (.ptr k o)
instance (n : Nat) : OfNat Operand n := ⟨.tmp n⟩
abbrev kk (n : Int) : Operand := .const (.int .i64 n)
abbrev kf : Operand := .const (.bool false)
abbrev kt : Operand := .const (.bool true)
abbrev zf (d g : Nat) (op : POp) : POper := ⟨some d, op, some (g, false), []⟩
abbrev zt (d g : Nat) (op : POp) : POper := ⟨some d, op, some (g, true), []⟩
abbrev za (d x k o : Nat) (op : POp) : POper := ⟨some d, op, none, [(x, .at_ k o)]⟩
abbrev zs (op : POp) : POper := ⟨none, op, none, []⟩
abbrev zn (op : POp) (h : List (Nat × Hint)) : POper := ⟨none, op, none, h⟩
abbrev rg (o : List POper) : PCode := .region none false o
abbrev rh (o : List POper) : PCode := .region none true o
abbrev sq (a b : PCode) : PCode := .seq a b
abbrev rt : PCode := .ret
abbrev zM (d : Nat) (x : Operand) : POper := ⟨some d, .mv x, none, []⟩
abbrev zL (d : Nat) (x : Operand) : POper := ⟨some d, .load false 1 x, none, []⟩
abbrev zG (d o : Nat) (x : Operand) : POper := ⟨some d, .faddr o x, none, []⟩
abbrev zX (d : Nat) (x : Operand) (i : Nat) : POper := ⟨some d, .ext x i, none, []⟩
abbrev zK (d : Nat) (o : BinOp) (t : Nat) (x : Operand) (n : Int) : POper := ⟨some d, .prim (.bin o t false true) [x, kk n], none, []⟩
abbrev zB (d : Nat) (o : BinOp) (t : Nat) (x y : Operand) : POper := ⟨some d, .prim (.bin o t false false) [x, y], none, []⟩
abbrev zi (d x : Nat) (op : POp) : POper := ⟨some d, op, none, [(x, .imm)]⟩
abbrev zj (d x y : Nat) (op : POp) : POper := ⟨some d, op, none, [(x, .imm), (y, .imm)]⟩
abbrev ki : Value := .int .i64 0
abbrev ks : Value := .string ByteArray.empty
abbrev kl : Value := .slice none 0 0
def hg (l : List (List Nat × Hint)) (x : Nat) : Option Hint := (l.find? fun p => p.1.contains x).map (·.2)
abbrev tz : PV := .tup []
abbrev iw : IntKind → Int → Int := IntKind.wrap
abbrev w0 (X : Frame) : List Lf := [lj X.From, lj X.Client, lj X.Session, lj X.Start, lj X.Beat, vw Event.cod X.Events]
abbrev w1 (X : Command) : List Lf := [lj X.Kind, lj 0, lj 0, lj 0, lj 0, lj 0, lj 0, ls be, lj 0, ls be, lj 0, ls be, lj 0, ls be, lj 0, ls be, lj X.Client, lj X.Session, lj 0, lj 0, lj 0, lj 0]
abbrev w2 (X : Command) : List Lf := [lj X.Kind, lj 0, lj 0, lj 0, lj 0, lj 0, lj 0, ls be, lj 0, ls be, lj 0, ls be, lj 0, ls be, lj 0, ls be, lj X.Client, lj X.Session, lj X.Rect.X0, lj X.Rect.Y0, lj X.Rect.X1, lj X.Rect.Y1]
abbrev w3 (X : Command) : List Lf := [lj X.Kind, lj X.ID, lj 0, lj 0, lj 0, lj 0, lj 0, ls be, lj 0, ls be, lj 0, ls be, lj 0, ls be, lj 0, ls be, lj X.Client, lj X.Session, lj 0, lj 0, lj 0, lj 0]
abbrev w4 (X : Packet) : List Lf := [lj X.F.From, lj X.F.Client, lj X.F.Session, lj X.F.Start, lj X.F.Beat, vw Event.cod X.F.Events]
abbrev w5 (X : Command) : List Lf := [lj X.Kind, lj X.ID, lj 0, lj 0, lj X.At.X, lj X.At.Y, lj 0, ls be, lj 0, ls be, lj 0, ls be, lj 0, ls be, lj 0, ls be, lj X.Client, lj X.Session, lj 0, lj 0, lj 0, lj 0]
abbrev w6 (X : Command) : List Lf := [lj X.Kind, lj X.ID, lj X.Which, lj 0, lj 0, lj 0, lj 0, ls be, lj 0, ls be, lj 0, ls be, lj 0, ls be, lj X.Value.N, ls X.Value.Text, lj X.Client, lj X.Session, lj 0, lj 0, lj 0, lj 0]
abbrev w7 (X : Command) : List Lf := [lj X.Kind, lj 0, lj X.Which, lj X.To, lj 0, lj 0, lj 0, ls be, lj 0, ls be, lj 0, ls be, lj 0, ls be, lj 0, ls be, lj X.Client, lj X.Session, lj 0, lj 0, lj 0, lj 0]
abbrev w8 (X : Delta) : List (Nat × PV) := [(1, qp 1 0), (40, .agg (A4_Field.cells X.F)), (41, qj 4)]
abbrev w9 (X : Delta) : List (Nat × PV) := [(1, qp 1 0), (40, .agg (A4_Field.cells X.F)), (41, qj 3)]
abbrev w10 (X : Delta) : List (Nat × PV) := [(1, qp 1 0), (40, .agg (A4_Field.cells X.F)), (41, qj 2)]
abbrev w11 (X : Delta) : List (Nat × PV) := [(1, qp 1 0), (40, .agg (A4_Field.cells X.F)), (41, qj 1)]
abbrev w12 (X : Delta) : List (Nat × PV) := [(2, qp 2 0), (3, qp 3 0), (4, qp 4 0), (15, .agg (A4_Field.cells X.F)), (16, qj 4)]
abbrev w13 (X : Delta) : List (Nat × PV) := [(2, qp 2 0), (3, qp 3 0), (4, qp 4 0), (15, .agg (A4_Field.cells X.F)), (16, qj 3)]
abbrev w14 (X : Delta) : List (Nat × PV) := [(2, qp 2 0), (3, qp 3 0), (4, qp 4 0), (15, .agg (A4_Field.cells X.F)), (16, qj 2)]
abbrev w15 (X : Delta) : List (Nat × PV) := [(2, qp 2 0), (3, qp 3 0), (4, qp 4 0), (15, .agg (A4_Field.cells X.F)), (16, qj 1)]
abbrev W0 (X0 : Client) : List Lf := [lj X0.id_, lj X0.n, lj X0.session, .ptr 1000001 0, lj X0.asked.From, lj X0.asked.To, lj X0.asked.Kind, lj X0.asked.Seq, lj X0.asked.C.Kind, lj X0.asked.C.ID, lj X0.asked.C.Which, lj X0.asked.C.To, lj X0.asked.C.At.X, lj X0.asked.C.At.Y, lj X0.asked.C.F.a0.N, ls X0.asked.C.F.a0.Text, lj X0.asked.C.F.a1.N, ls X0.asked.C.F.a1.Text, lj X0.asked.C.F.a2.N, ls X0.asked.C.F.a2.Text, lj X0.asked.C.F.a3.N, ls X0.asked.C.F.a3.Text, lj X0.asked.C.Value.N, ls X0.asked.C.Value.Text, lj X0.asked.C.Client, lj X0.asked.C.Session, lj X0.asked.C.Rect.X0, lj X0.asked.C.Rect.Y0, lj X0.asked.C.Rect.X1, lj X0.asked.C.Rect.Y1, lj X0.asked.E, lj X0.asked.ID, lj X0.asked.N.From, lj X0.asked.N.Beat, vw Thing.cod X0.asked.N.Moved, vw Hand.cod X0.asked.N.Hands, vw Thing.cod X0.asked.N.Given, vw Command.cod X0.asked.N.Watch, lj X0.asked.F.From, lj X0.asked.F.Client, lj X0.asked.F.Session, lj X0.asked.F.Start, lj X0.asked.F.Beat, vw Event.cod X0.asked.F.Events, lj X0.asked.Session, lj X0.asked.Beat, lb X0.busy, lj X0.seq, lj X0.thing, lj X0.e]
abbrev W1 (X0 : (Int × Client)) : List Lf := [lj X0.2.id_, lj X0.2.n, lj X0.2.session, .ptr 300004 0, lj X0.2.asked.From, lj X0.2.asked.To, lj X0.2.asked.Kind, lj X0.2.asked.Seq, lj X0.2.asked.C.Kind, lj X0.2.asked.C.ID, lj X0.2.asked.C.Which, lj X0.2.asked.C.To, lj X0.2.asked.C.At.X, lj X0.2.asked.C.At.Y, lj X0.2.asked.C.F.a0.N, ls X0.2.asked.C.F.a0.Text, lj X0.2.asked.C.F.a1.N, ls X0.2.asked.C.F.a1.Text, lj X0.2.asked.C.F.a2.N, ls X0.2.asked.C.F.a2.Text, lj X0.2.asked.C.F.a3.N, ls X0.2.asked.C.F.a3.Text, lj X0.2.asked.C.Value.N, ls X0.2.asked.C.Value.Text, lj X0.2.asked.C.Client, lj X0.2.asked.C.Session, lj X0.2.asked.C.Rect.X0, lj X0.2.asked.C.Rect.Y0, lj X0.2.asked.C.Rect.X1, lj X0.2.asked.C.Rect.Y1, lj X0.2.asked.E, lj X0.2.asked.ID, lj X0.2.asked.N.From, lj X0.2.asked.N.Beat, vw Thing.cod X0.2.asked.N.Moved, vw Hand.cod X0.2.asked.N.Hands, vw Thing.cod X0.2.asked.N.Given, vw Command.cod X0.2.asked.N.Watch, lj X0.2.asked.F.From, lj X0.2.asked.F.Client, lj X0.2.asked.F.Session, lj X0.2.asked.F.Start, lj X0.2.asked.F.Beat, vw Event.cod X0.2.asked.F.Events, lj X0.2.asked.Session, lj X0.2.asked.Beat, lb X0.2.busy, lj X0.2.seq, lj X0.2.thing, lj X0.2.e]
abbrev W2 : List Lf := [lj 0, lj 0, lj 0, lj 0, lj 0, lj 0, lj 0, lj 0, lj 0, lj 0, lj 0, ls be, lj 0, ls be, lj 0, ls be, lj 0, ls be, lj 0, ls be, lj 0, lj 0, lj 0, lj 0, lj 0, lj 0, lj 0, lj 0, lj 0, lj 0, vw Thing.cod ([] : List Thing), vw Hand.cod ([] : List Hand), vw Thing.cod ([] : List Thing), vw Command.cod ([] : List Command), lj 0, lj 0, lj 0, lj 0, lj 0, vw Event.cod ([] : List Event), lj 0, lj 0]
abbrev W3 (X0 : (List Packet)) (X1 : Client) (X2 : Int) (X3 : Int) (X4 : Int) (X5 : Int) (X6 : Int) (X7 : (List Thing)) (X8 : (List Event)) (X9 : (List (Key × (List Event)))) : List (Nat × Option Ob) := [(100003, some (.arr 73 Packet.cod.sz 0 (X0).length (getOf Packet.cod X0))), (1000000, some (.cells [lj X1.id_, lj X1.n, lj X1.session, .ptr 1000001 0, lj X1.asked.From, lj X1.asked.To, lj X1.asked.Kind, lj X1.asked.Seq, lj X1.asked.C.Kind, lj X1.asked.C.ID, lj X1.asked.C.Which, lj X1.asked.C.To, lj X1.asked.C.At.X, lj X1.asked.C.At.Y, lj X1.asked.C.F.a0.N, ls X1.asked.C.F.a0.Text, lj X1.asked.C.F.a1.N, ls X1.asked.C.F.a1.Text, lj X1.asked.C.F.a2.N, ls X1.asked.C.F.a2.Text, lj X1.asked.C.F.a3.N, ls X1.asked.C.F.a3.Text, lj X1.asked.C.Value.N, ls X1.asked.C.Value.Text, lj X1.asked.C.Client, lj X1.asked.C.Session, lj X1.asked.C.Rect.X0, lj X1.asked.C.Rect.Y0, lj X1.asked.C.Rect.X1, lj X1.asked.C.Rect.Y1, lj X1.asked.E, lj X1.asked.ID, lj X1.asked.N.From, lj X1.asked.N.Beat, vw Thing.cod X1.asked.N.Moved, vw Hand.cod X1.asked.N.Hands, vw Thing.cod X1.asked.N.Given, vw Command.cod X1.asked.N.Watch, lj X1.asked.F.From, lj X1.asked.F.Client, lj X1.asked.F.Session, lj X1.asked.F.Start, lj X1.asked.F.Beat, vw Event.cod X1.asked.F.Events, lj X1.asked.Session, lj X1.asked.Beat, lb X1.busy, lj X1.seq, lj X1.thing, lj X1.e])), (1000001, some (.cells [lj X2, lj X3, lj X4, lj X5, lj X6, vw Thing.cod X7, .osl 1000002 1 0 (X8).length, .mp 1000003])), (1000002, some (.arr 58 Event.cod.sz 1 (X8).length (getOf Event.cod X8))), (1000003, some (.map (mapOf Key.cells Event.cod X9)))]
abbrev W4 (X0 : Client) : List (Nat × Option Ob) := [(300000, some (.cells [lj X0.id_, lj X0.n, lj X0.session, .ptr 300001 0, lj X0.asked.From, lj X0.asked.To, lj X0.asked.Kind, lj X0.asked.Seq, lj X0.asked.C.Kind, lj X0.asked.C.ID, lj X0.asked.C.Which, lj X0.asked.C.To, lj X0.asked.C.At.X, lj X0.asked.C.At.Y, lj X0.asked.C.F.a0.N, ls X0.asked.C.F.a0.Text, lj X0.asked.C.F.a1.N, ls X0.asked.C.F.a1.Text, lj X0.asked.C.F.a2.N, ls X0.asked.C.F.a2.Text, lj X0.asked.C.F.a3.N, ls X0.asked.C.F.a3.Text, lj X0.asked.C.Value.N, ls X0.asked.C.Value.Text, lj X0.asked.C.Client, lj X0.asked.C.Session, lj X0.asked.C.Rect.X0, lj X0.asked.C.Rect.Y0, lj X0.asked.C.Rect.X1, lj X0.asked.C.Rect.Y1, lj X0.asked.E, lj X0.asked.ID, lj X0.asked.N.From, lj X0.asked.N.Beat, vw Thing.cod X0.asked.N.Moved, vw Hand.cod X0.asked.N.Hands, vw Thing.cod X0.asked.N.Given, vw Command.cod X0.asked.N.Watch, lj X0.asked.F.From, lj X0.asked.F.Client, lj X0.asked.F.Session, lj X0.asked.F.Start, lj X0.asked.F.Beat, vw Event.cod X0.asked.F.Events, lj X0.asked.Session, lj X0.asked.Beat, lb X0.busy, lj X0.seq, lj X0.thing, lj X0.e])), (300001, some (.cells [lj X0.v.client, lj X0.v.session, lj X0.v.n, lj X0.v.beat, lj X0.v.start, vw Thing.cod X0.v.things, .osl 300002 0 0 (X0.v.log_).length, .mp 300003])), (300002, some (.arr 58 Event.cod.sz 0 (X0.v.log_).length (getOf Event.cod X0.v.log_))), (300003, some (.map (mapOf Key.cells Event.cod X0.v.wait)))]
abbrev W5 (X0 : (Packet × Int × Client)) : List Lf := [lj X0.1.From, lj X0.1.To, lj X0.1.Kind, lj X0.1.Seq, lj X0.1.C.Kind, lj X0.1.C.ID, lj X0.1.C.Which, lj X0.1.C.To, lj X0.1.C.At.X, lj X0.1.C.At.Y, lj X0.1.C.F.a0.N, ls X0.1.C.F.a0.Text, lj X0.1.C.F.a1.N, ls X0.1.C.F.a1.Text, lj X0.1.C.F.a2.N, ls X0.1.C.F.a2.Text, lj X0.1.C.F.a3.N, ls X0.1.C.F.a3.Text, lj X0.1.C.Value.N, ls X0.1.C.Value.Text, lj X0.1.C.Client, lj X0.1.C.Session, lj X0.1.C.Rect.X0, lj X0.1.C.Rect.Y0, lj X0.1.C.Rect.X1, lj X0.1.C.Rect.Y1, lj X0.1.E, lj X0.1.ID, lj X0.1.N.From, lj X0.1.N.Beat, vw Thing.cod X0.1.N.Moved, vw Hand.cod X0.1.N.Hands, vw Thing.cod X0.1.N.Given, vw Command.cod X0.1.N.Watch, lj X0.1.F.From, lj X0.1.F.Client, lj X0.1.F.Session, lj X0.1.F.Start, lj X0.1.F.Beat, vw Event.cod X0.1.F.Events, lj X0.1.Session, lj X0.1.Beat]
abbrev W6 (X0 : (Int × Client)) : List Lf := [lj X0.2.id_, lj X0.2.n, lj X0.2.session, .ptr 300001 0, lj X0.2.asked.From, lj X0.2.asked.To, lj X0.2.asked.Kind, lj X0.2.asked.Seq, lj X0.2.asked.C.Kind, lj X0.2.asked.C.ID, lj X0.2.asked.C.Which, lj X0.2.asked.C.To, lj X0.2.asked.C.At.X, lj X0.2.asked.C.At.Y, lj X0.2.asked.C.F.a0.N, ls X0.2.asked.C.F.a0.Text, lj X0.2.asked.C.F.a1.N, ls X0.2.asked.C.F.a1.Text, lj X0.2.asked.C.F.a2.N, ls X0.2.asked.C.F.a2.Text, lj X0.2.asked.C.F.a3.N, ls X0.2.asked.C.F.a3.Text, lj X0.2.asked.C.Value.N, ls X0.2.asked.C.Value.Text, lj X0.2.asked.C.Client, lj X0.2.asked.C.Session, lj X0.2.asked.C.Rect.X0, lj X0.2.asked.C.Rect.Y0, lj X0.2.asked.C.Rect.X1, lj X0.2.asked.C.Rect.Y1, lj X0.2.asked.E, lj X0.2.asked.ID, lj X0.2.asked.N.From, lj X0.2.asked.N.Beat, vw Thing.cod X0.2.asked.N.Moved, vw Hand.cod X0.2.asked.N.Hands, vw Thing.cod X0.2.asked.N.Given, vw Command.cod X0.2.asked.N.Watch, lj X0.2.asked.F.From, lj X0.2.asked.F.Client, lj X0.2.asked.F.Session, lj X0.2.asked.F.Start, lj X0.2.asked.F.Beat, vw Event.cod X0.2.asked.F.Events, lj X0.2.asked.Session, lj X0.2.asked.Beat, lb X0.2.busy, lj X0.2.seq, lj X0.2.thing, lj X0.2.e]
abbrev W7 (X0 : Thing) (X1 : Delta) : List (Nat × Option Ob) := [(2, some (.cells (Thing.cells X0))), (3, some (.cells (Delta.cells X1))), (4, some (.cells [lj 0, lj 0, lj 0, lj 0, ls be, lj 0, ls be, lj 0, ls be, lj 0, ls be]))]
abbrev W8 (X0 : (List Packet)) (X1 : Client) (X2 : Int) (X3 : (Int × View)) : List (Nat × Option Ob) := [(100003, some (.arr 73 Packet.cod.sz 0 ((X0 ++ [(Packet.mk (iw .i64 (100 + X1.id_)) X2 5 0 (Command.mk 0 0 0 0 (Point.mk 0 0) (A4.mk (Field.mk 0 be) (Field.mk 0 be) (Field.mk 0 be) (Field.mk 0 be)) (Field.mk 0 be) 0 0 (Rect.mk 0 0 0 0)) 0 0 (Note.mk 0 0 ([] : List Thing) ([] : List Hand) ([] : List Thing) ([] : List Command)) (Frame.mk 0 0 0 0 0 ([] : List Event)) X1.session X3.1)])).length (getOf Packet.cod (X0 ++ [(Packet.mk (iw .i64 (100 + X1.id_)) X2 5 0 (Command.mk 0 0 0 0 (Point.mk 0 0) (A4.mk (Field.mk 0 be) (Field.mk 0 be) (Field.mk 0 be) (Field.mk 0 be)) (Field.mk 0 be) 0 0 (Rect.mk 0 0 0 0)) 0 0 (Note.mk 0 0 ([] : List Thing) ([] : List Hand) ([] : List Thing) ([] : List Command)) (Frame.mk 0 0 0 0 0 ([] : List Event)) X1.session X3.1)])))), (1000000, some (.cells [lj X1.id_, lj X1.n, lj X1.session, .ptr 1000001 0, lj X1.asked.From, lj X1.asked.To, lj X1.asked.Kind, lj X1.asked.Seq, lj X1.asked.C.Kind, lj X1.asked.C.ID, lj X1.asked.C.Which, lj X1.asked.C.To, lj X1.asked.C.At.X, lj X1.asked.C.At.Y, lj X1.asked.C.F.a0.N, ls X1.asked.C.F.a0.Text, lj X1.asked.C.F.a1.N, ls X1.asked.C.F.a1.Text, lj X1.asked.C.F.a2.N, ls X1.asked.C.F.a2.Text, lj X1.asked.C.F.a3.N, ls X1.asked.C.F.a3.Text, lj X1.asked.C.Value.N, ls X1.asked.C.Value.Text, lj X1.asked.C.Client, lj X1.asked.C.Session, lj X1.asked.C.Rect.X0, lj X1.asked.C.Rect.Y0, lj X1.asked.C.Rect.X1, lj X1.asked.C.Rect.Y1, lj X1.asked.E, lj X1.asked.ID, lj X1.asked.N.From, lj X1.asked.N.Beat, vw Thing.cod X1.asked.N.Moved, vw Hand.cod X1.asked.N.Hands, vw Thing.cod X1.asked.N.Given, vw Command.cod X1.asked.N.Watch, lj X1.asked.F.From, lj X1.asked.F.Client, lj X1.asked.F.Session, lj X1.asked.F.Start, lj X1.asked.F.Beat, vw Event.cod X1.asked.F.Events, lj X1.asked.Session, lj X1.asked.Beat, lb X1.busy, lj X1.seq, lj X1.thing, lj X1.e])), (1000001, some (.cells [lj X3.2.client, lj X3.2.session, lj X3.2.n, lj X3.2.beat, lj X3.2.start, vw Thing.cod X3.2.things, .osl 1000002 1 0 (X3.2.log_).length, .mp 1000003])), (1000002, some (.arr 58 Event.cod.sz 1 (X3.2.log_).length (getOf Event.cod X3.2.log_))), (1000003, some (.map (mapOf Key.cells Event.cod X3.2.wait)))]
abbrev W9 (X0 : Int) (X1 : Int) (X2 : Int) (X3 : Int) (X4 : Int) (X5 : (List Thing)) (X6 : (List Event)) (X7 : (List (Key × (List Event)))) : List (Nat × Option Ob) := [(1000000, some (.cells [lj X0, lj X1, lj X2, lj X3, lj X4, vw Thing.cod X5, .osl 1000001 1 0 (X6).length, .mp 1000002])), (1000001, some (.arr 58 Event.cod.sz 1 (X6).length (getOf Event.cod X6))), (1000002, some (.map (mapOf Key.cells Event.cod X7)))]
abbrev W10 (X0 : Int) (X1 : Int) : List Lf := [lj 0, lj 102, lj 4, lj 0, lj 0, lj 0, lj 0, lj 0, lj 0, lj 0, lj 0, ls be, lj 0, ls be, lj 0, ls be, lj 0, ls be, lj 0, ls be, lj 0, lj 0, lj 0, lj 0, lj 0, lj 0, lj 0, lj 0, lj 0, lj 0, vw Thing.cod ([] : List Thing), vw Hand.cod ([] : List Hand), vw Thing.cod ([] : List Thing), vw Command.cod ([] : List Command), lj 0, lj 2, lj X0, lj (iw .i64 X1), lj (iw .i64 X1), vw Event.cod [(Event.mk 1 0 (Thing.mk 0 (Point.mk 0 0) (A4.mk (Field.mk 0 be) (Field.mk 0 be) (Field.mk 0 be) (Field.mk 0 be))) (Delta.mk 0 0 (Point.mk 0 0) (A4.mk (Field.mk 0 be) (Field.mk 0 be) (Field.mk 0 be) (Field.mk 0 be))))], lj 0, lj 0]
abbrev W11 (X0 : View) : List (Nat × Option Ob) := [(1000000, some (.cells [lj X0.client, lj X0.session, lj X0.n, lj X0.beat, lj X0.start, vw Thing.cod X0.things, .osl 1000001 0 0 (X0.log_).length, .mp 1000002])), (1000001, some (.arr 58 Event.cod.sz 0 (X0.log_).length (getOf Event.cod X0.log_))), (1000002, some (.map (mapOf Key.cells Event.cod X0.wait)))]
abbrev W12 (X0 : Client) (X1 : Int) (X2 : Command) : List Lf := [lj (iw .i64 (100 + X0.id_)), lj X1, lj 1, lj (iw .i64 (X0.seq + 1)), lj X2.Kind, lj X2.ID, lj X2.Which, lj X2.To, lj X2.At.X, lj X2.At.Y, lj X2.F.a0.N, ls X2.F.a0.Text, lj X2.F.a1.N, ls X2.F.a1.Text, lj X2.F.a2.N, ls X2.F.a2.Text, lj X2.F.a3.N, ls X2.F.a3.Text, lj X2.Value.N, ls X2.Value.Text, lj X0.id_, lj X0.session, lj X2.Rect.X0, lj X2.Rect.Y0, lj X2.Rect.X1, lj X2.Rect.Y1, lj 0, lj 0, lj 0, lj 0, vw Thing.cod ([] : List Thing), vw Hand.cod ([] : List Hand), vw Thing.cod ([] : List Thing), vw Command.cod ([] : List Command), lj 0, lj 0, lj 0, lj 0, lj 0, vw Event.cod ([] : List Event), lj X0.session, lj 0]
abbrev W13 (X0 : Client) : List Lf := [lj X0.v.client, lj X0.v.session, lj X0.v.n, lj X0.v.beat, lj X0.v.start, vw Thing.cod X0.v.things, .osl 1000002 0 0 (X0.v.log_).length, .mp 1000003]
abbrev W14 (X0 : Int) (X1 : Int) : List Lf := [lj (imin (imax X0 0) 3), lj (imin (imax X1 1) 4), lj 0, .val (.pointer none), lj 0, lj 0, lj 0, lj 0, lj 0, lj 0, lj 0, lj 0, lj 0, lj 0, lj 0, ls be, lj 0, ls be, lj 0, ls be, lj 0, ls be, lj 0, ls be, lj 0, lj 0, lj 0, lj 0, lj 0, lj 0, lj 0, lj 0, lj 0, lj 0, vw Thing.cod ([] : List Thing), vw Hand.cod ([] : List Hand), vw Thing.cod ([] : List Thing), vw Command.cod ([] : List Command), lj 0, lj 0, lj 0, lj 0, lj 0, vw Event.cod ([] : List Event), lj 0, lj 0, lb false, lj 0, lj 0, lj 0]
abbrev W15 (X0 : Command) (X1 : Client) : List Lf := [lj X0.Kind, lj X0.ID, lj X0.Which, lj X0.To, lj X0.At.X, lj X0.At.Y, lj X0.F.a0.N, ls X0.F.a0.Text, lj X0.F.a1.N, ls X0.F.a1.Text, lj X0.F.a2.N, ls X0.F.a2.Text, lj X0.F.a3.N, ls X0.F.a3.Text, lj X0.Value.N, ls X0.Value.Text, lj X1.id_, lj X1.session, lj X0.Rect.X0, lj X0.Rect.Y0, lj X0.Rect.X1, lj X0.Rect.Y1]
abbrev W16 (X0 : View) : List (Nat × Option Ob) := [(300000, some (.cells [lj X0.client, lj X0.session, lj X0.n, lj X0.beat, lj X0.start, vw Thing.cod X0.things, .osl 300001 0 0 (X0.log_).length, .mp 300002])), (300001, some (.arr 58 Event.cod.sz 0 (X0.log_).length (getOf Event.cod X0.log_))), (300002, some (.map (mapOf Key.cells Event.cod X0.wait)))]
abbrev W17 : List (Nat × PV) := [(162, qb true), (161, tz), (160, tz), (159, tz), (158, tz), (157, qb true), (156, qb true), (155, tz), (154, tz), (153, tz), (152, tz), (151, qb true), (150, qb true)]
abbrev W18 (X0 : Int) (X1 : Int) : List Lf := [lj 0, lj 2, lj X0, lj (iw .i64 X1), lj (iw .i64 X1), vw Event.cod [(Event.mk 1 0 (Thing.mk 0 (Point.mk 0 0) (A4.mk (Field.mk 0 be) (Field.mk 0 be) (Field.mk 0 be) (Field.mk 0 be))) (Delta.mk 0 0 (Point.mk 0 0) (A4.mk (Field.mk 0 be) (Field.mk 0 be) (Field.mk 0 be) (Field.mk 0 be))))]]
abbrev W19 (X0 : Client) (X1 : Int) (X2 : (Int × View)) : List (Nat × PV) := [(46, .one (vw Packet.cod [(Packet.mk (iw .i64 (100 + X0.id_)) X1 5 0 (Command.mk 0 0 0 0 (Point.mk 0 0) (A4.mk (Field.mk 0 be) (Field.mk 0 be) (Field.mk 0 be) (Field.mk 0 be)) (Field.mk 0 be) 0 0 (Rect.mk 0 0 0 0)) 0 0 (Note.mk 0 0 ([] : List Thing) ([] : List Hand) ([] : List Thing) ([] : List Command)) (Frame.mk 0 0 0 0 0 ([] : List Event)) X0.session X2.1)])), (45, .agg [lj (iw .i64 (100 + X0.id_)), lj X1, lj 5, lj 0, lj 0, lj 0, lj 0, lj 0, lj 0, lj 0, lj 0, ls be, lj 0, ls be, lj 0, ls be, lj 0, ls be, lj 0, ls be, lj 0, lj 0, lj 0, lj 0, lj 0, lj 0, lj 0, lj 0, lj 0, lj 0, vw Thing.cod ([] : List Thing), vw Hand.cod ([] : List Hand), vw Thing.cod ([] : List Thing), vw Command.cod ([] : List Command), lj 0, lj 0, lj 0, lj 0, lj 0, vw Event.cod ([] : List Event), lj X0.session, lj X2.1])]
abbrev W20 (X0 : Packet) : List Lf := [lj X0.From, lj X0.To, lj X0.Kind, lj X0.Seq, lj X0.C.Kind, lj X0.C.ID, lj X0.C.Which, lj X0.C.To, lj X0.C.At.X, lj X0.C.At.Y, lj X0.C.F.a0.N, ls X0.C.F.a0.Text, lj X0.C.F.a1.N, ls X0.C.F.a1.Text, lj X0.C.F.a2.N, ls X0.C.F.a2.Text, lj X0.C.F.a3.N, ls X0.C.F.a3.Text, lj X0.C.Value.N, ls X0.C.Value.Text, lj X0.C.Client, lj X0.C.Session, lj X0.C.Rect.X0, lj X0.C.Rect.Y0, lj X0.C.Rect.X1, lj X0.C.Rect.Y1, lj X0.E, lj X0.ID, lj X0.N.From, lj X0.N.Beat, vw Thing.cod X0.N.Moved, vw Hand.cod X0.N.Hands, vw Thing.cod X0.N.Given, vw Command.cod X0.N.Watch, lj X0.F.From, lj X0.F.Client, lj X0.F.Session, lj X0.F.Start, lj X0.F.Beat, vw Event.cod X0.F.Events, lj X0.Session, lj X0.Beat]
abbrev W21 (X0 : (List Packet)) (X1 : Client) (X2 : Int) (X3 : (Int × View)) : List (Nat × Option Ob) := [(100003, some (.arr 73 Packet.cod.sz (0 + 1) ((X0 ++ [(Packet.mk (iw .i64 (100 + X1.id_)) X2 5 0 (Command.mk 0 0 0 0 (Point.mk 0 0) (A4.mk (Field.mk 0 be) (Field.mk 0 be) (Field.mk 0 be) (Field.mk 0 be)) (Field.mk 0 be) 0 0 (Rect.mk 0 0 0 0)) 0 0 (Note.mk 0 0 ([] : List Thing) ([] : List Hand) ([] : List Thing) ([] : List Command)) (Frame.mk 0 0 0 0 0 ([] : List Event)) X1.session X3.1)])).length (getOf Packet.cod (X0 ++ [(Packet.mk (iw .i64 (100 + X1.id_)) X2 5 0 (Command.mk 0 0 0 0 (Point.mk 0 0) (A4.mk (Field.mk 0 be) (Field.mk 0 be) (Field.mk 0 be) (Field.mk 0 be)) (Field.mk 0 be) 0 0 (Rect.mk 0 0 0 0)) 0 0 (Note.mk 0 0 ([] : List Thing) ([] : List Hand) ([] : List Thing) ([] : List Command)) (Frame.mk 0 0 0 0 0 ([] : List Event)) X1.session X3.1)]))))]
abbrev W22 (X0 : Command) : List (Nat × Option Ob) := [(1, some (.cells (Command.cells X0)))]
abbrev W23 : List Nat := [300000, 300001, 300002, 300003, 300004, 300005, 300006, 300007, 300008, 300009, 300010, 300011, 300012, 300013, 300014, 300015, 300016, 300017, 300018, 300019, 300020, 300021, 300022, 300023]
abbrev W24 (X0 : Delta) : List (Nat × Option Ob) := [(1, some (.cells (Delta.cells X0)))]
abbrev W25 (X0 : View) : List Lf := [lj X0.client, lj X0.session, lj X0.n, lj X0.beat, lj X0.start, vw Thing.cod X0.things, .osl 1000001 1 0 (X0.log_).length, .mp 1000002]
abbrev W26 (X0 : Command) : List Lf := [lj X0.Kind, lj 0, lj 0, lj 0, lj X0.At.X, lj X0.At.Y, lj X0.F.a0.N, ls X0.F.a0.Text, lj X0.F.a1.N, ls X0.F.a1.Text, lj X0.F.a2.N, ls X0.F.a2.Text, lj X0.F.a3.N, ls X0.F.a3.Text, lj 0, ls be, lj X0.Client, lj X0.Session, lj 0, lj 0, lj 0, lj 0]
abbrev W27 : List Nat := [300000, 300004, 300005, 300006]
abbrev W28 (X0 : Int) : List Lf := [lj 0, lj 102, lj 2, lj 1, lj 0, lj 0, lj 0, lj 0, lj 0, lj 0, lj 0, ls be, lj 0, ls be, lj 0, ls be, lj 0, ls be, lj 0, ls be, lj 0, lj 0, lj 0, lj 0, lj 0, lj 0, lj 0, lj 7, lj 0, lj 0, vw Thing.cod ([] : List Thing), vw Hand.cod ([] : List Hand), vw Thing.cod ([] : List Thing), vw Command.cod ([] : List Command), lj 0, lj 0, lj 0, lj 0, lj 0, vw Event.cod ([] : List Event), lj X0, lj 0]
abbrev W29 (X0 : ((List Packet) × Client)) : List Lf := [lj X0.2.id_, lj X0.2.n, lj X0.2.session, .ptr 300001 0, lj X0.2.asked.From, lj X0.2.asked.To, lj X0.2.asked.Kind, lj X0.2.asked.Seq, lj X0.2.asked.C.Kind, lj X0.2.asked.C.ID, lj X0.2.asked.C.Which, lj X0.2.asked.C.To, lj X0.2.asked.C.At.X, lj X0.2.asked.C.At.Y, lj X0.2.asked.C.F.a0.N, ls X0.2.asked.C.F.a0.Text, lj X0.2.asked.C.F.a1.N, ls X0.2.asked.C.F.a1.Text, lj X0.2.asked.C.F.a2.N, ls X0.2.asked.C.F.a2.Text, lj X0.2.asked.C.F.a3.N, ls X0.2.asked.C.F.a3.Text, lj X0.2.asked.C.Value.N, ls X0.2.asked.C.Value.Text, lj X0.2.asked.C.Client, lj X0.2.asked.C.Session, lj X0.2.asked.C.Rect.X0, lj X0.2.asked.C.Rect.Y0, lj X0.2.asked.C.Rect.X1, lj X0.2.asked.C.Rect.Y1, lj X0.2.asked.E, lj X0.2.asked.ID, lj X0.2.asked.N.From, lj X0.2.asked.N.Beat, vw Thing.cod X0.2.asked.N.Moved, vw Hand.cod X0.2.asked.N.Hands, vw Thing.cod X0.2.asked.N.Given, vw Command.cod X0.2.asked.N.Watch, lj X0.2.asked.F.From, lj X0.2.asked.F.Client, lj X0.2.asked.F.Session, lj X0.2.asked.F.Start, lj X0.2.asked.F.Beat, vw Event.cod X0.2.asked.F.Events, lj X0.2.asked.Session, lj X0.2.asked.Beat, lb X0.2.busy, lj X0.2.seq, lj X0.2.thing, lj X0.2.e]
abbrev W30 (X0 : Client) : List (Nat × Option Ob) := [(1000000, some (.cells (W0 X0))), (1000001, some (.cells (W13 X0))), (1000002, some (.arr 58 Event.cod.sz 0 (X0.v.log_).length (getOf Event.cod X0.v.log_))), (1000003, some (.map (mapOf Key.cells Event.cod X0.v.wait)))]
abbrev W31 : List Lf := [lj 0, lj 0, lj 0, lj 0, ls be, lj 0, ls be, lj 0, ls be, lj 0, ls be]
abbrev W32 (X0 : View) : List Lf := [lj X0.client, lj X0.session, lj X0.n, lj X0.beat, lj X0.start, vw Thing.cod X0.things, .osl 1000001 0 0 (X0.log_).length, .mp 1000002]
abbrev W33 (X0 : (List Packet)) (X1 : Client) (X2 : Int) (X3 : (Int × View)) : List (Nat × PV) := [(0, qp 1000000 0), (3, .one (.osl 100003 0 0 ((X0 ++ [(Packet.mk (iw .i64 (100 + X1.id_)) X2 5 0 (Command.mk 0 0 0 0 (Point.mk 0 0) (A4.mk (Field.mk 0 be) (Field.mk 0 be) (Field.mk 0 be) (Field.mk 0 be)) (Field.mk 0 be) 0 0 (Rect.mk 0 0 0 0)) 0 0 (Note.mk 0 0 ([] : List Thing) ([] : List Hand) ([] : List Thing) ([] : List Command)) (Frame.mk 0 0 0 0 0 ([] : List Event)) X1.session X3.1)])).length)), (19, qj X1.n), (20, qj (iw .i64 (X2 + 1)))]
abbrev W34 (X0 : (Int × View)) : List (Nat × Option Ob) := [(1000001, some (.cells [lj X0.2.client, lj X0.2.session, lj X0.2.n, lj X0.2.beat, lj X0.2.start, vw Thing.cod X0.2.things, .osl 1000002 ((1 + 1) + 1) 0 (X0.2.log_).length, .mp 1000003])), (1000002, some (.arr 58 Event.cod.sz ((1 + 1) + 1) (X0.2.log_).length (getOf Event.cod X0.2.log_))), (1000003, some (.map (mapOf Key.cells Event.cod X0.2.wait)))]
abbrev W35 (X0 : (Int × View)) : List (Nat × Option Ob) := [(1000001, some (.cells [lj X0.2.client, lj X0.2.session, lj X0.2.n, lj X0.2.beat, lj X0.2.start, vw Thing.cod X0.2.things, .osl 1000002 (1 + 1) 0 (X0.2.log_).length, .mp 1000003])), (1000002, some (.arr 58 Event.cod.sz (1 + 1) (X0.2.log_).length (getOf Event.cod X0.2.log_))), (1000003, some (.map (mapOf Key.cells Event.cod X0.2.wait)))]
abbrev W36 : List Nat := [300000, 300001, 300002, 300003]
abbrev W37 (X0 : (List Thing)) : List (Nat × Option Ob) := [(300000, some (.arr 54 Thing.cod.sz 0 (X0).length (getOf Thing.cod X0)))]
abbrev W38 (X0 : (List Packet)) (X1 : Client) (X2 : Int) (X3 : (Int × View)) : List (Nat × PV) := [(47, .one (.osl 100003 (0 + 1) 0 ((X0 ++ [(Packet.mk (iw .i64 (100 + X1.id_)) X2 5 0 (Command.mk 0 0 0 0 (Point.mk 0 0) (A4.mk (Field.mk 0 be) (Field.mk 0 be) (Field.mk 0 be) (Field.mk 0 be)) (Field.mk 0 be) 0 0 (Rect.mk 0 0 0 0)) 0 0 (Note.mk 0 0 ([] : List Thing) ([] : List Hand) ([] : List Thing) ([] : List Command)) (Frame.mk 0 0 0 0 0 ([] : List Event)) X1.session X3.1)])).length))]
abbrev W39 (X0 : (List Packet)) (X1 : Client) (X2 : Int) (X3 : (Int × View)) : List (Nat × PV) := [(3, .one (.osl 100003 (0 + 1) 0 ((X0 ++ [(Packet.mk (iw .i64 (100 + X1.id_)) X2 5 0 (Command.mk 0 0 0 0 (Point.mk 0 0) (A4.mk (Field.mk 0 be) (Field.mk 0 be) (Field.mk 0 be) (Field.mk 0 be)) (Field.mk 0 be) 0 0 (Rect.mk 0 0 0 0)) 0 0 (Note.mk 0 0 ([] : List Thing) ([] : List Hand) ([] : List Thing) ([] : List Command)) (Frame.mk 0 0 0 0 0 ([] : List Event)) X1.session X3.1)])).length))]
abbrev W40 : List (Nat × PV) := [(40, qp 1000000 49), (39, qp 1000000 0), (38, qp 1000000 48), (37, qp 1000000 0), (36, qp 1000000 47), (35, qp 1000000 0), (34, qp 1000000 46), (33, qp 1000000 0), (32, qp 1000000 4), (31, qp 1000000 0), (30, .agg W2)]
abbrev W41 : List Nat := [1000001, 1000002, 1000003]
abbrev W42 : List Nat := [300000, 300001, 300002, 300003, 300004, 300005, 300006, 300007]
abbrev W43 (X0 : Client) (X1 : Int) : List (Nat × PV) := [(43, qp 1000001 0), (42, qp 1000000 3), (41, qp 1000000 0), (40, qp 1000000 0), (39, qj X0.session), (38, qp 1000000 2), (37, qp 1000000 0), (36, qp 1000000 0), (35, qj X1), (34, qj (iw .i64 (100 + X0.id_))), (33, qj X0.id_)]
abbrev W44 : List Nat := [109, 108, 107, 106, 105, 104, 103, 102, 101, 100, 99, 98, 97, 96, 95, 94, 93, 92, 91, 90]
abbrev W45 (X0 : ((List Packet) × Client)) : List Lf := [lj X0.2.v.client, lj X0.2.v.session, lj X0.2.v.n, lj X0.2.v.beat, lj X0.2.v.start, vw Thing.cod X0.2.v.things, .osl 300002 ((((((((0 + 1) + 1) + 1) + 1) + 1) + 1) + 1) + 1) 0 (X0.2.v.log_).length, .mp 300003]
abbrev W46 : List (Nat × PV) := [(59, qb false), (58, qb false), (57, tz), (56, tz), (55, tz)]
abbrev W47 (X0 : Bool) (X1 : Bool) : List (Nat × PV) := [(1, qp 1 0), (5, qb X0), (6, qb X1), (7, qb false)]
abbrev W48 : List Nat := [1000000, 1000001, 1000002]
abbrev W49 : List (Nat × PV) := [(2, qb false), (1, qp 1 0)]
abbrev W50 (X0 : (List Packet)) (X1 : Client) (X2 : Int) : List (Nat × PV) := [(0, qp 1000000 0), (3, .one (.osl 100003 0 0 (X0).length)), (19, qj X1.n), (20, qj X2)]
abbrev W51 : List Lf := [lj 0, lj 0, lj 0, lj 0, lj 0, lj 0, lj 0, ls be, lj 0, ls be, lj 0, ls be, lj 0, ls be, lj 0, ls be, lj 0, lj 0, lj 0, lj 0, lj 0, lj 0]
abbrev W52 : List Lf := [lj 4, lj 0, lj 0, lj 0, lj 0, lj 0, lj 0, ls be, lj 0, ls be, lj 0, ls be, lj 0, ls be, lj 0, ls be, lj 0, lj 0, lj 0, lj 0, lj 0, lj 0]
abbrev W53 (X0 : Delta) : List Lf := [lj X0.F.a3.N, ls X0.F.a3.Text]
abbrev W54 (X0 : Delta) : List Lf := [lj X0.F.a2.N, ls X0.F.a2.Text]
abbrev W55 (X0 : Delta) : List Lf := [lj X0.F.a1.N, ls X0.F.a1.Text]
abbrev W56 (X0 : Delta) : List Lf := [lj X0.F.a0.N, ls X0.F.a0.Text]
abbrev W57 (X0 : Client) : List Lf := [lj X0.v.client, lj X0.v.session, lj X0.v.n, lj X0.v.beat, lj X0.v.start, vw Thing.cod X0.v.things, .osl 1000002 1 0 (X0.v.log_).length, .mp 1000003]
abbrev W58 (X0 : ((List Packet) × Client)) : List Lf := [lj X0.2.v.client, lj X0.2.v.session, lj X0.2.v.n, lj X0.2.v.beat, lj X0.2.v.start, vw Thing.cod X0.2.v.things, .osl 1000002 1 0 (X0.2.v.log_).length, .mp 1000003]
abbrev W59 : List Nat := [100003, 1000000, 1000001, 1000002, 1000003]
abbrev W60 (X0 : Thing) (X1 : Delta) : List Lf := [lj X0.ID, lj X0.At.X, lj X0.At.Y, lj X0.F.a0.N, ls X0.F.a0.Text, lj X0.F.a1.N, ls X0.F.a1.Text, lj X0.F.a2.N, ls X0.F.a2.Text, lj X1.F.a3.N, ls X1.F.a3.Text]
abbrev W61 (X0 : Thing) (X1 : Delta) : List Lf := [lj X0.ID, lj X0.At.X, lj X0.At.Y, lj X0.F.a0.N, ls X0.F.a0.Text, lj X0.F.a1.N, ls X0.F.a1.Text, lj X1.F.a2.N, ls X1.F.a2.Text, lj X0.F.a3.N, ls X0.F.a3.Text]
abbrev W62 (X0 : Thing) (X1 : Delta) : List Lf := [lj X0.ID, lj X0.At.X, lj X0.At.Y, lj X0.F.a0.N, ls X0.F.a0.Text, lj X1.F.a1.N, ls X1.F.a1.Text, lj X0.F.a2.N, ls X0.F.a2.Text, lj X0.F.a3.N, ls X0.F.a3.Text]
abbrev W63 (X0 : Thing) (X1 : Delta) : List Lf := [lj X0.ID, lj X0.At.X, lj X0.At.Y, lj X1.F.a0.N, ls X1.F.a0.Text, lj X0.F.a1.N, ls X0.F.a1.Text, lj X0.F.a2.N, ls X0.F.a2.Text, lj X0.F.a3.N, ls X0.F.a3.Text]
abbrev W64 (X0 : Thing) (X1 : Delta) : List Lf := [lj X0.ID, lj X1.At.X, lj X1.At.Y, lj X0.F.a0.N, ls X0.F.a0.Text, lj X0.F.a1.N, ls X0.F.a1.Text, lj X0.F.a2.N, ls X0.F.a2.Text, lj X0.F.a3.N, ls X0.F.a3.Text]
abbrev W65 (X0 : Int) : List (Nat × PV) := [(8, qp 1000000 2), (7, qp 1000000 0), (6, qj (iw .i64 (X0 + 1))), (5, qj X0), (4, qp 1000000 2), (3, qp 1000000 0), (2, qp 1000000 0)]
abbrev W66 : List Nat := [58, 57, 56, 55, 54, 53, 52, 51, 50, 49]
abbrev W67 : List (Nat × PV) := [(144, qb true), (143, qb true)]
abbrev W68 (X0 : Thing) : List PV := [.one (vw Field.cod [X0.F.a0, X0.F.a1, X0.F.a2, X0.F.a3]), .one (.val (.func (.func 79) #[] #[]))]
abbrev W69 : List Nat := [3, 1000000, 1000001, 1000002]
abbrev W70 : List (Nat × PV) := [(0, qp 1000000 0), (3, qp 3 0)]
abbrev W71 : List (Nat × PV) := [(26, qp 1000001 0), (25, qp 1000000 3), (24, qp 1000000 0), (23, qp 1000000 0)]
abbrev W72 : List (Nat × PV) := [(67, qb true), (66, qb true)]
abbrev W73 (X0 : Frame) (X1 : View) : List PV := [.one (vw Event.cod (mget (Key.mk X0.From X0.Beat) X1.wait)), qb (mhas (Key.mk X0.From X0.Beat) X1.wait)]
abbrev ow0 : TypeId → List (Nat × TypeId × Nat) := fun t => match t with
  | 32 => [(5, 1000000058, 25)]
  | 36 => [(5, 1000000054, 11), (6, 58, 25), (7, 32, 6)]
  | 71 => [(2, 1000000054, 11), (3, 1000000156, 2), (4, 1000000054, 11), (5, 1000000063, 22)]
  | 73 => [(30, 1000000054, 11), (31, 1000000156, 2), (32, 1000000054, 11), (33, 1000000063, 22), (39, 1000000058, 25)]
  | 93 => [(35, 1000000054, 11), (36, 1000000156, 2), (37, 1000000054, 11), (38, 1000000063, 22), (44, 1000000058, 25)]
  | 99 => [(5, 1000000054, 11), (6, 58, 25)]
  | 109 => [(34, 1000000054, 11), (35, 1000000156, 2), (36, 1000000054, 11), (37, 1000000063, 22), (43, 1000000058, 25)]
  | _ => []
end Go.Proofs.Ythdabpmcojmhhaa
