/- No condition. -/
import Derived.Test.YthdabpmcojmhhaaProg
import Derived.Test.YthdabpmcojmhhaaRxZa
import Derived.Test.YthdabpmcojmhhaaRxWr
namespace Go.Proofs.Ythdabpmcojmhhaa
open Go Go.Rx
set_option maxRecDepth 100000
set_option linter.unusedVariables false
set_option linter.unusedSimpArgs false
set_option linter.unnecessarySimpa false
set_option linter.unnecessarySimpa false
set_option linter.unnecessarySimpa false
structure A4 (α : Type) where
 (a0 a1 a2 a3 : α)
 deriving DecidableEq
structure Point where
 X : Int
 Y : Int
 deriving DecidableEq
def Point.cells (x : Point) : List Lf := [li .i64 x.X, li .i64 x.Y]
def Point.cod : Cod Point := ⟨2, Point.cells⟩
structure Field where
 N : Int
 Text : ByteArray
 deriving DecidableEq
def Field.cells (x : Field) : List Lf := [li .i64 x.N, ls x.Text]
def Field.cod : Cod Field := ⟨2, Field.cells⟩
structure Thing where
 ID : Int
 At : Point
 F : (A4 Field)
 deriving DecidableEq
def Thing.cells (x : Thing) : List Lf := [li .i64 x.ID, li .i64 x.At.X, li .i64 x.At.Y, li .i64 x.F.a0.N, ls x.F.a0.Text, li .i64 x.F.a1.N, ls x.F.a1.Text, li .i64 x.F.a2.N, ls x.F.a2.Text, li .i64 x.F.a3.N, ls x.F.a3.Text]
def Thing.cod : Cod Thing := ⟨11, Thing.cells⟩
structure Delta where
 ID : Int
 Mask : Int
 At : Point
 F : (A4 Field)
 deriving DecidableEq
def Delta.cells (x : Delta) : List Lf := [li .i64 x.ID, li .u8 x.Mask, li .i64 x.At.X, li .i64 x.At.Y, li .i64 x.F.a0.N, ls x.F.a0.Text, li .i64 x.F.a1.N, ls x.F.a1.Text, li .i64 x.F.a2.N, ls x.F.a2.Text, li .i64 x.F.a3.N, ls x.F.a3.Text]
def Delta.cod : Cod Delta := ⟨12, Delta.cells⟩
structure Event where
 Kind : Int
 ID : Int
 Thing : Thing
 Delta : Delta
 deriving DecidableEq
def Event.cells (x : Event) : List Lf := [li .i64 x.Kind, li .i64 x.ID, li .i64 x.Thing.ID, li .i64 x.Thing.At.X, li .i64 x.Thing.At.Y, li .i64 x.Thing.F.a0.N, ls x.Thing.F.a0.Text, li .i64 x.Thing.F.a1.N, ls x.Thing.F.a1.Text, li .i64 x.Thing.F.a2.N, ls x.Thing.F.a2.Text, li .i64 x.Thing.F.a3.N, ls x.Thing.F.a3.Text, li .i64 x.Delta.ID, li .u8 x.Delta.Mask, li .i64 x.Delta.At.X, li .i64 x.Delta.At.Y, li .i64 x.Delta.F.a0.N, ls x.Delta.F.a0.Text, li .i64 x.Delta.F.a1.N, ls x.Delta.F.a1.Text, li .i64 x.Delta.F.a2.N, ls x.Delta.F.a2.Text, li .i64 x.Delta.F.a3.N, ls x.Delta.F.a3.Text]
def Event.cod : Cod Event := ⟨25, Event.cells⟩
structure Key where
 from_ : Int
 beat : Int
 deriving DecidableEq
def Key.cells (x : Key) : List Lf := [li .i64 x.from_, li .i64 x.beat]
def Key.cod : Cod Key := ⟨2, Key.cells⟩
structure View where
 client : Int
 session : Int
 n : Int
 beat : Int
 start : Int
 things : (List Thing)
 log_ : (List Event)
 wait : (List (Key × (List Event)))
 deriving DecidableEq
structure Frame where
 From : Int
 Client : Int
 Session : Int
 Start : Int
 Beat : Int
 Events : (List Event)
 deriving DecidableEq
def Frame.cells (x : Frame) : List Lf := [li .i64 x.From, li .i64 x.Client, li .i64 x.Session, li .i64 x.Start, li .i64 x.Beat, vw Event.cod x.Events]
def Frame.cod : Cod Frame := ⟨6, Frame.cells⟩
structure View_vedetteref19 where
 Client : Int
 Session : Int
 N : Int
 Start : Int
 Beat : Int
 L : (List Thing)
 Log : (List Event)
 Wait : (List Frame)
 deriving DecidableEq
structure Hand where
 Cell : Int
 To : Int
 deriving DecidableEq
def Hand.cells (x : Hand) : List Lf := [li .i64 x.Cell, li .i64 x.To]
def Hand.cod : Cod Hand := ⟨2, Hand.cells⟩
structure Rect where
 X0 : Int
 Y0 : Int
 X1 : Int
 Y1 : Int
 deriving DecidableEq
def Rect.cells (x : Rect) : List Lf := [li .i64 x.X0, li .i64 x.Y0, li .i64 x.X1, li .i64 x.Y1]
def Rect.cod : Cod Rect := ⟨4, Rect.cells⟩
structure Command where
 Kind : Int
 ID : Int
 Which : Int
 To : Int
 At : Point
 F : (A4 Field)
 Value : Field
 Client : Int
 Session : Int
 Rect : Rect
 deriving DecidableEq
def Command.cells (x : Command) : List Lf := [li .i64 x.Kind, li .i64 x.ID, li .i64 x.Which, li .i64 x.To, li .i64 x.At.X, li .i64 x.At.Y, li .i64 x.F.a0.N, ls x.F.a0.Text, li .i64 x.F.a1.N, ls x.F.a1.Text, li .i64 x.F.a2.N, ls x.F.a2.Text, li .i64 x.F.a3.N, ls x.F.a3.Text, li .i64 x.Value.N, ls x.Value.Text, li .i64 x.Client, li .i64 x.Session, li .i64 x.Rect.X0, li .i64 x.Rect.Y0, li .i64 x.Rect.X1, li .i64 x.Rect.Y1]
def Command.cod : Cod Command := ⟨22, Command.cells⟩
structure Note where
 From : Int
 Beat : Int
 Moved : (List Thing)
 Hands : (List Hand)
 Given : (List Thing)
 Watch : (List Command)
 deriving DecidableEq
def Note.cells (x : Note) : List Lf := [li .i64 x.From, li .i64 x.Beat, vw Thing.cod x.Moved, vw Hand.cod x.Hands, vw Thing.cod x.Given, vw Command.cod x.Watch]
def Note.cod : Cod Note := ⟨6, Note.cells⟩
structure Packet where
 From : Int
 To : Int
 Kind : Int
 Seq : Int
 C : Command
 E : Int
 ID : Int
 N : Note
 F : Frame
 Session : Int
 Beat : Int
 deriving DecidableEq
def Packet.cells (x : Packet) : List Lf := [li .i64 x.From, li .i64 x.To, li .i64 x.Kind, li .i64 x.Seq, li .i64 x.C.Kind, li .i64 x.C.ID, li .i64 x.C.Which, li .i64 x.C.To, li .i64 x.C.At.X, li .i64 x.C.At.Y, li .i64 x.C.F.a0.N, ls x.C.F.a0.Text, li .i64 x.C.F.a1.N, ls x.C.F.a1.Text, li .i64 x.C.F.a2.N, ls x.C.F.a2.Text, li .i64 x.C.F.a3.N, ls x.C.F.a3.Text, li .i64 x.C.Value.N, ls x.C.Value.Text, li .i64 x.C.Client, li .i64 x.C.Session, li .i64 x.C.Rect.X0, li .i64 x.C.Rect.Y0, li .i64 x.C.Rect.X1, li .i64 x.C.Rect.Y1, li .i64 x.E, li .i64 x.ID, li .i64 x.N.From, li .i64 x.N.Beat, vw Thing.cod x.N.Moved, vw Hand.cod x.N.Hands, vw Thing.cod x.N.Given, vw Command.cod x.N.Watch, li .i64 x.F.From, li .i64 x.F.Client, li .i64 x.F.Session, li .i64 x.F.Start, li .i64 x.F.Beat, vw Event.cod x.F.Events, li .i64 x.Session, li .i64 x.Beat]
def Packet.cod : Cod Packet := ⟨42, Packet.cells⟩
structure Client where
 id_ : Int
 n : Int
 session : Int
 v : View
 asked : Packet
 busy : Bool
 seq : Int
 thing : Int
 e : Int
 deriving DecidableEq
structure Step where
 What : Int
 To : Int
 C : Command
 P : Packet
 deriving DecidableEq
def Step.cells (x : Step) : List Lf := [li .i64 x.What, li .i64 x.To, li .i64 x.C.Kind, li .i64 x.C.ID, li .i64 x.C.Which, li .i64 x.C.To, li .i64 x.C.At.X, li .i64 x.C.At.Y, li .i64 x.C.F.a0.N, ls x.C.F.a0.Text, li .i64 x.C.F.a1.N, ls x.C.F.a1.Text, li .i64 x.C.F.a2.N, ls x.C.F.a2.Text, li .i64 x.C.F.a3.N, ls x.C.F.a3.Text, li .i64 x.C.Value.N, ls x.C.Value.Text, li .i64 x.C.Client, li .i64 x.C.Session, li .i64 x.C.Rect.X0, li .i64 x.C.Rect.Y0, li .i64 x.C.Rect.X1, li .i64 x.C.Rect.Y1, li .i64 x.P.From, li .i64 x.P.To, li .i64 x.P.Kind, li .i64 x.P.Seq, li .i64 x.P.C.Kind, li .i64 x.P.C.ID, li .i64 x.P.C.Which, li .i64 x.P.C.To, li .i64 x.P.C.At.X, li .i64 x.P.C.At.Y, li .i64 x.P.C.F.a0.N, ls x.P.C.F.a0.Text, li .i64 x.P.C.F.a1.N, ls x.P.C.F.a1.Text, li .i64 x.P.C.F.a2.N, ls x.P.C.F.a2.Text, li .i64 x.P.C.F.a3.N, ls x.P.C.F.a3.Text, li .i64 x.P.C.Value.N, ls x.P.C.Value.Text, li .i64 x.P.C.Client, li .i64 x.P.C.Session, li .i64 x.P.C.Rect.X0, li .i64 x.P.C.Rect.Y0, li .i64 x.P.C.Rect.X1, li .i64 x.P.C.Rect.Y1, li .i64 x.P.E, li .i64 x.P.ID, li .i64 x.P.N.From, li .i64 x.P.N.Beat, vw Thing.cod x.P.N.Moved, vw Hand.cod x.P.N.Hands, vw Thing.cod x.P.N.Given, vw Command.cod x.P.N.Watch, li .i64 x.P.F.From, li .i64 x.P.F.Client, li .i64 x.P.F.Session, li .i64 x.P.F.Start, li .i64 x.P.F.Beat, vw Event.cod x.P.F.Events, li .i64 x.P.Session, li .i64 x.P.Beat]
def Step.cod : Cod Step := ⟨66, Step.cells⟩
structure Client_vedetteref23 where
 Me : Int
 N : Int
 Session : Int
 Seq : Int
 Busy : Bool
 Ask : Packet
 E : Int
 ID : Int
 V : View_vedetteref19
 deriving DecidableEq
def A4_Field.cells (x : (A4 Field)) : List Lf := [li .i64 x.a0.N, ls x.a0.Text, li .i64 x.a1.N, ls x.a1.Text, li .i64 x.a2.N, ls x.a2.Text, li .i64 x.a3.N, ls x.a3.Text]
def Point.eqb (x y : Point) : Bool := [x.X == y.X, x.Y == y.Y].all id
theorem zgr (x y : Point) (d : Nat) : prun Try.prog (Op.equalIn (d + 2) 49 (.agg #[.int .i64 x.X, .int .i64 x.Y]) (.agg #[.int .i64 y.X, .int .i64 y.Y])) = some (Point.eqb x y) := by
 refine (zdo Try.underlying49 (by kernel_rfl) (d + 1) [(_, x.X == y.X), (_, x.Y == y.Y)] rfl ?_).trans (by kernel_rfl)
 intro p hp
 simp only [yav, ycl, or_false] at hp
 rcases hp with rfl | rfl
 ·exact ⟨by simp, (.int .i64 x.X), (.int .i64 y.X), by kernel_rfl, by kernel_rfl, zbd (k := .i64) Try.underlying3 _ _ _ _⟩
 ·exact ⟨by simp, (.int .i64 x.Y), (.int .i64 y.Y), by kernel_rfl, by kernel_rfl, zbd (k := .i64) Try.underlying3 _ _ _ _⟩
theorem Point_eqn (x y : Point) (cx cy : Bool) : prun Try.prog ((Prim.bin .neq 49 cx cy).sem [.agg #[.int .i64 x.X, .int .i64 x.Y], .agg #[.int .i64 y.X, .int .i64 y.Y]]) = some (.bool (!(Point.eqb x y))) := pr_nest (zgr x y 9998) (by kernel_rfl) cx cy
def Field.eqb (x y : Field) : Bool := [x.N == y.N, x.Text == y.Text].all id
theorem zdi (x y : Field) (d : Nat) : prun Try.prog (Op.equalIn (d + 2) 51 (.agg #[.int .i64 x.N, .string x.Text]) (.agg #[.int .i64 y.N, .string y.Text])) = some (Field.eqb x y) := by
 refine (zdo Try.underlying51 (by kernel_rfl) (d + 1) [(_, x.N == y.N), (_, x.Text == y.Text)] rfl ?_).trans (by kernel_rfl)
 intro p hp
 simp only [yav, ycl, or_false] at hp
 rcases hp with rfl | rfl
 ·exact ⟨by simp, (.int .i64 x.N), (.int .i64 y.N), by kernel_rfl, by kernel_rfl, zbd (k := .i64) Try.underlying2 _ _ _ _⟩
 ·exact ⟨by simp, (.string x.Text), (.string y.Text), by kernel_rfl, by kernel_rfl, eqstr_run Try.underlying9 _ _ _⟩
theorem zcb (x y : Field) (cx cy : Bool) : prun Try.prog ((Prim.bin .neq 51 cx cy).sem [.agg #[.int .i64 x.N, .string x.Text], .agg #[.int .i64 y.N, .string y.Text]]) = some (.bool (!(Field.eqb x y))) := pr_nest (zdi x y 9998) (by kernel_rfl) cx cy
def A4_Field.eqb (x y : (A4 Field)) : Bool := [Field.eqb x.a0 y.a0, Field.eqb x.a1 y.a1, Field.eqb x.a2 y.a2, Field.eqb x.a3 y.a3].all id
theorem zei (x y : (A4 Field)) (d : Nat) : prun Try.prog (Op.equalIn (d + 3) 52 (.agg #[.int .i64 x.a0.N, .string x.a0.Text, .int .i64 x.a1.N, .string x.a1.Text, .int .i64 x.a2.N, .string x.a2.Text, .int .i64 x.a3.N, .string x.a3.Text]) (.agg #[.int .i64 y.a0.N, .string y.a0.Text, .int .i64 y.a1.N, .string y.a1.Text, .int .i64 y.a2.N, .string y.a2.Text, .int .i64 y.a3.N, .string y.a3.Text])) = some (A4_Field.eqb x y) := by
 refine (eqar_run (e := 51) (n := 4) (sz := 2) Try.underlying52 (by kernel_rfl) (d + 2) [Field.eqb x.a0 y.a0, Field.eqb x.a1 y.a1, Field.eqb x.a2 y.a2, Field.eqb x.a3 y.a3] rfl ?_).trans (by kernel_rfl)
 intro i hi
 match i, hi with
 | 0, _ => exact ⟨(.agg #[.int .i64 x.a0.N, .string x.a0.Text]), (.agg #[.int .i64 y.a0.N, .string y.a0.Text]), by kernel_rfl, by kernel_rfl, zdi x.a0 y.a0 _⟩
 | 1, _ => exact ⟨(.agg #[.int .i64 x.a1.N, .string x.a1.Text]), (.agg #[.int .i64 y.a1.N, .string y.a1.Text]), by kernel_rfl, by kernel_rfl, zdi x.a1 y.a1 _⟩
 | 2, _ => exact ⟨(.agg #[.int .i64 x.a2.N, .string x.a2.Text]), (.agg #[.int .i64 y.a2.N, .string y.a2.Text]), by kernel_rfl, by kernel_rfl, zdi x.a2 y.a2 _⟩
 | 3, _ => exact ⟨(.agg #[.int .i64 x.a3.N, .string x.a3.Text]), (.agg #[.int .i64 y.a3.N, .string y.a3.Text]), by kernel_rfl, by kernel_rfl, zdi x.a3 y.a3 _⟩
def Thing.eqb (x y : Thing) : Bool := [x.ID == y.ID, Point.eqb x.At y.At, A4_Field.eqb x.F y.F].all id
theorem Thing_run (x y : Thing) (d : Nat) : prun Try.prog (Op.equalIn (d + 4) 54 (.agg #[.int .i64 x.ID, .int .i64 x.At.X, .int .i64 x.At.Y, .int .i64 x.F.a0.N, .string x.F.a0.Text, .int .i64 x.F.a1.N, .string x.F.a1.Text, .int .i64 x.F.a2.N, .string x.F.a2.Text, .int .i64 x.F.a3.N, .string x.F.a3.Text]) (.agg #[.int .i64 y.ID, .int .i64 y.At.X, .int .i64 y.At.Y, .int .i64 y.F.a0.N, .string y.F.a0.Text, .int .i64 y.F.a1.N, .string y.F.a1.Text, .int .i64 y.F.a2.N, .string y.F.a2.Text, .int .i64 y.F.a3.N, .string y.F.a3.Text])) = some (Thing.eqb x y) := by
 refine (zdo Try.underlying54 (by kernel_rfl) (d + 3) [(_, x.ID == y.ID), (_, Point.eqb x.At y.At), (_, A4_Field.eqb x.F y.F)] rfl ?_).trans (by kernel_rfl)
 intro p hp
 simp only [yav, ycl, or_false] at hp
 rcases hp with rfl | rfl | rfl
 ·exact ⟨by simp, (.int .i64 x.ID), (.int .i64 y.ID), by kernel_rfl, by kernel_rfl, zbd (k := .i64) Try.underlying3 _ _ _ _⟩
 ·exact ⟨by simp, (.agg #[.int .i64 x.At.X, .int .i64 x.At.Y]), (.agg #[.int .i64 y.At.X, .int .i64 y.At.Y]), by kernel_rfl, by kernel_rfl, zgr x.At y.At _⟩
 ·exact ⟨by simp, (.agg #[.int .i64 x.F.a0.N, .string x.F.a0.Text, .int .i64 x.F.a1.N, .string x.F.a1.Text, .int .i64 x.F.a2.N, .string x.F.a2.Text, .int .i64 x.F.a3.N, .string x.F.a3.Text]), (.agg #[.int .i64 y.F.a0.N, .string y.F.a0.Text, .int .i64 y.F.a1.N, .string y.F.a1.Text, .int .i64 y.F.a2.N, .string y.F.a2.Text, .int .i64 y.F.a3.N, .string y.F.a3.Text]), by kernel_rfl, by kernel_rfl, zei x.F y.F _⟩
theorem Thing_eql (x y : Thing) (cx cy : Bool) : prun Try.prog ((Prim.bin .eql 54 cx cy).sem [.agg #[.int .i64 x.ID, .int .i64 x.At.X, .int .i64 x.At.Y, .int .i64 x.F.a0.N, .string x.F.a0.Text, .int .i64 x.F.a1.N, .string x.F.a1.Text, .int .i64 x.F.a2.N, .string x.F.a2.Text, .int .i64 x.F.a3.N, .string x.F.a3.Text], .agg #[.int .i64 y.ID, .int .i64 y.At.X, .int .i64 y.At.Y, .int .i64 y.F.a0.N, .string y.F.a0.Text, .int .i64 y.F.a1.N, .string y.F.a1.Text, .int .i64 y.F.a2.N, .string y.F.a2.Text, .int .i64 y.F.a3.N, .string y.F.a3.Text]]) = some (.bool (Thing.eqb x y)) := pr_eqst (Thing_run x y 9996) (by kernel_rfl) cx cy
theorem Thing_eqn (x y : Thing) (cx cy : Bool) : prun Try.prog ((Prim.bin .neq 54 cx cy).sem [.agg #[.int .i64 x.ID, .int .i64 x.At.X, .int .i64 x.At.Y, .int .i64 x.F.a0.N, .string x.F.a0.Text, .int .i64 x.F.a1.N, .string x.F.a1.Text, .int .i64 x.F.a2.N, .string x.F.a2.Text, .int .i64 x.F.a3.N, .string x.F.a3.Text], .agg #[.int .i64 y.ID, .int .i64 y.At.X, .int .i64 y.At.Y, .int .i64 y.F.a0.N, .string y.F.a0.Text, .int .i64 y.F.a1.N, .string y.F.a1.Text, .int .i64 y.F.a2.N, .string y.F.a2.Text, .int .i64 y.F.a3.N, .string y.F.a3.Text]]) = some (.bool (!(Thing.eqb x y))) := pr_nest (Thing_run x y 9996) (by kernel_rfl) cx cy
def Delta.eqb (x y : Delta) : Bool := [x.ID == y.ID, x.Mask == y.Mask, Point.eqb x.At y.At, A4_Field.eqb x.F y.F].all id
theorem Delta_run (x y : Delta) (d : Nat) : prun Try.prog (Op.equalIn (d + 4) 56 (.agg #[.int .i64 x.ID, .int .u8 x.Mask, .int .i64 x.At.X, .int .i64 x.At.Y, .int .i64 x.F.a0.N, .string x.F.a0.Text, .int .i64 x.F.a1.N, .string x.F.a1.Text, .int .i64 x.F.a2.N, .string x.F.a2.Text, .int .i64 x.F.a3.N, .string x.F.a3.Text]) (.agg #[.int .i64 y.ID, .int .u8 y.Mask, .int .i64 y.At.X, .int .i64 y.At.Y, .int .i64 y.F.a0.N, .string y.F.a0.Text, .int .i64 y.F.a1.N, .string y.F.a1.Text, .int .i64 y.F.a2.N, .string y.F.a2.Text, .int .i64 y.F.a3.N, .string y.F.a3.Text])) = some (Delta.eqb x y) := by
 refine (zdo Try.underlying56 (by kernel_rfl) (d + 3) [(_, x.ID == y.ID), (_, x.Mask == y.Mask), (_, Point.eqb x.At y.At), (_, A4_Field.eqb x.F y.F)] rfl ?_).trans (by kernel_rfl)
 intro p hp
 simp only [yav, ycl, or_false] at hp
 rcases hp with rfl | rfl | rfl | rfl
 ·exact ⟨by simp, (.int .i64 x.ID), (.int .i64 y.ID), by kernel_rfl, by kernel_rfl, zbd (k := .i64) Try.underlying3 _ _ _ _⟩
 ·exact ⟨by simp, (.int .u8 x.Mask), (.int .u8 y.Mask), by kernel_rfl, by kernel_rfl, zbd (k := .u8) Try.underlying5 _ _ _ _⟩
 ·exact ⟨by simp, (.agg #[.int .i64 x.At.X, .int .i64 x.At.Y]), (.agg #[.int .i64 y.At.X, .int .i64 y.At.Y]), by kernel_rfl, by kernel_rfl, zgr x.At y.At _⟩
 ·exact ⟨by simp, (.agg #[.int .i64 x.F.a0.N, .string x.F.a0.Text, .int .i64 x.F.a1.N, .string x.F.a1.Text, .int .i64 x.F.a2.N, .string x.F.a2.Text, .int .i64 x.F.a3.N, .string x.F.a3.Text]), (.agg #[.int .i64 y.F.a0.N, .string y.F.a0.Text, .int .i64 y.F.a1.N, .string y.F.a1.Text, .int .i64 y.F.a2.N, .string y.F.a2.Text, .int .i64 y.F.a3.N, .string y.F.a3.Text]), by kernel_rfl, by kernel_rfl, zei x.F y.F _⟩
theorem Delta_eql (x y : Delta) (cx cy : Bool) : prun Try.prog ((Prim.bin .eql 56 cx cy).sem [.agg #[.int .i64 x.ID, .int .u8 x.Mask, .int .i64 x.At.X, .int .i64 x.At.Y, .int .i64 x.F.a0.N, .string x.F.a0.Text, .int .i64 x.F.a1.N, .string x.F.a1.Text, .int .i64 x.F.a2.N, .string x.F.a2.Text, .int .i64 x.F.a3.N, .string x.F.a3.Text], .agg #[.int .i64 y.ID, .int .u8 y.Mask, .int .i64 y.At.X, .int .i64 y.At.Y, .int .i64 y.F.a0.N, .string y.F.a0.Text, .int .i64 y.F.a1.N, .string y.F.a1.Text, .int .i64 y.F.a2.N, .string y.F.a2.Text, .int .i64 y.F.a3.N, .string y.F.a3.Text]]) = some (.bool (Delta.eqb x y)) := pr_eqst (Delta_run x y 9996) (by kernel_rfl) cx cy
def Event.eqb (x y : Event) : Bool := [x.Kind == y.Kind, x.ID == y.ID, Thing.eqb x.Thing y.Thing, Delta.eqb x.Delta y.Delta].all id
def Rect.eqb (x y : Rect) : Bool := [x.X0 == y.X0, x.Y0 == y.Y0, x.X1 == y.X1, x.Y1 == y.Y1].all id
theorem Rect_run (x y : Rect) (d : Nat) : prun Try.prog (Op.equalIn (d + 2) 61 (.agg #[.int .i64 x.X0, .int .i64 x.Y0, .int .i64 x.X1, .int .i64 x.Y1]) (.agg #[.int .i64 y.X0, .int .i64 y.Y0, .int .i64 y.X1, .int .i64 y.Y1])) = some (Rect.eqb x y) := by
 refine (zdo Try.underlying61 (by kernel_rfl) (d + 1) [(_, x.X0 == y.X0), (_, x.Y0 == y.Y0), (_, x.X1 == y.X1), (_, x.Y1 == y.Y1)] rfl ?_).trans (by kernel_rfl)
 intro p hp
 simp only [yav, ycl, or_false] at hp
 rcases hp with rfl | rfl | rfl | rfl
 ·exact ⟨by simp, (.int .i64 x.X0), (.int .i64 y.X0), by kernel_rfl, by kernel_rfl, zbd (k := .i64) Try.underlying3 _ _ _ _⟩
 ·exact ⟨by simp, (.int .i64 x.Y0), (.int .i64 y.Y0), by kernel_rfl, by kernel_rfl, zbd (k := .i64) Try.underlying3 _ _ _ _⟩
 ·exact ⟨by simp, (.int .i64 x.X1), (.int .i64 y.X1), by kernel_rfl, by kernel_rfl, zbd (k := .i64) Try.underlying3 _ _ _ _⟩
 ·exact ⟨by simp, (.int .i64 x.Y1), (.int .i64 y.Y1), by kernel_rfl, by kernel_rfl, zbd (k := .i64) Try.underlying3 _ _ _ _⟩
def Command.eqb (x y : Command) : Bool := [x.Kind == y.Kind, x.ID == y.ID, x.Which == y.Which, x.To == y.To, Point.eqb x.At y.At, A4_Field.eqb x.F y.F, Field.eqb x.Value y.Value, x.Client == y.Client, x.Session == y.Session, Rect.eqb x.Rect y.Rect].all id
theorem Command_run (x y : Command) (d : Nat) : prun Try.prog (Op.equalIn (d + 4) 63 (.agg #[.int .i64 x.Kind, .int .i64 x.ID, .int .i64 x.Which, .int .i64 x.To, .int .i64 x.At.X, .int .i64 x.At.Y, .int .i64 x.F.a0.N, .string x.F.a0.Text, .int .i64 x.F.a1.N, .string x.F.a1.Text, .int .i64 x.F.a2.N, .string x.F.a2.Text, .int .i64 x.F.a3.N, .string x.F.a3.Text, .int .i64 x.Value.N, .string x.Value.Text, .int .i64 x.Client, .int .i64 x.Session, .int .i64 x.Rect.X0, .int .i64 x.Rect.Y0, .int .i64 x.Rect.X1, .int .i64 x.Rect.Y1]) (.agg #[.int .i64 y.Kind, .int .i64 y.ID, .int .i64 y.Which, .int .i64 y.To, .int .i64 y.At.X, .int .i64 y.At.Y, .int .i64 y.F.a0.N, .string y.F.a0.Text, .int .i64 y.F.a1.N, .string y.F.a1.Text, .int .i64 y.F.a2.N, .string y.F.a2.Text, .int .i64 y.F.a3.N, .string y.F.a3.Text, .int .i64 y.Value.N, .string y.Value.Text, .int .i64 y.Client, .int .i64 y.Session, .int .i64 y.Rect.X0, .int .i64 y.Rect.Y0, .int .i64 y.Rect.X1, .int .i64 y.Rect.Y1])) = some (Command.eqb x y) := by
 refine (zdo Try.underlying63 (by kernel_rfl) (d + 3) [(_, x.Kind == y.Kind), (_, x.ID == y.ID), (_, x.Which == y.Which), (_, x.To == y.To), (_, Point.eqb x.At y.At), (_, A4_Field.eqb x.F y.F), (_, Field.eqb x.Value y.Value), (_, x.Client == y.Client), (_, x.Session == y.Session), (_, Rect.eqb x.Rect y.Rect)] rfl ?_).trans (by kernel_rfl)
 intro p hp
 simp only [yav, ycl, or_false] at hp
 rcases hp with rfl | rfl | rfl | rfl | rfl | rfl | rfl | rfl | rfl | rfl
 ·exact ⟨by simp, (.int .i64 x.Kind), (.int .i64 y.Kind), by kernel_rfl, by kernel_rfl, zbd (k := .i64) Try.underlying3 _ _ _ _⟩
 ·exact ⟨by simp, (.int .i64 x.ID), (.int .i64 y.ID), by kernel_rfl, by kernel_rfl, zbd (k := .i64) Try.underlying3 _ _ _ _⟩
 ·exact ⟨by simp, (.int .i64 x.Which), (.int .i64 y.Which), by kernel_rfl, by kernel_rfl, zbd (k := .i64) Try.underlying3 _ _ _ _⟩
 ·exact ⟨by simp, (.int .i64 x.To), (.int .i64 y.To), by kernel_rfl, by kernel_rfl, zbd (k := .i64) Try.underlying3 _ _ _ _⟩
 ·exact ⟨by simp, (.agg #[.int .i64 x.At.X, .int .i64 x.At.Y]), (.agg #[.int .i64 y.At.X, .int .i64 y.At.Y]), by kernel_rfl, by kernel_rfl, zgr x.At y.At _⟩
 ·exact ⟨by simp, (.agg #[.int .i64 x.F.a0.N, .string x.F.a0.Text, .int .i64 x.F.a1.N, .string x.F.a1.Text, .int .i64 x.F.a2.N, .string x.F.a2.Text, .int .i64 x.F.a3.N, .string x.F.a3.Text]), (.agg #[.int .i64 y.F.a0.N, .string y.F.a0.Text, .int .i64 y.F.a1.N, .string y.F.a1.Text, .int .i64 y.F.a2.N, .string y.F.a2.Text, .int .i64 y.F.a3.N, .string y.F.a3.Text]), by kernel_rfl, by kernel_rfl, zei x.F y.F _⟩
 ·exact ⟨by simp, (.agg #[.int .i64 x.Value.N, .string x.Value.Text]), (.agg #[.int .i64 y.Value.N, .string y.Value.Text]), by kernel_rfl, by kernel_rfl, zdi x.Value y.Value _⟩
 ·exact ⟨by simp, (.int .i64 x.Client), (.int .i64 y.Client), by kernel_rfl, by kernel_rfl, zbd (k := .i64) Try.underlying3 _ _ _ _⟩
 ·exact ⟨by simp, (.int .i64 x.Session), (.int .i64 y.Session), by kernel_rfl, by kernel_rfl, zbd (k := .i64) Try.underlying3 _ _ _ _⟩
 ·exact ⟨by simp, (.agg #[.int .i64 x.Rect.X0, .int .i64 x.Rect.Y0, .int .i64 x.Rect.X1, .int .i64 x.Rect.Y1]), (.agg #[.int .i64 y.Rect.X0, .int .i64 y.Rect.Y0, .int .i64 y.Rect.X1, .int .i64 y.Rect.Y1]), by kernel_rfl, by kernel_rfl, Rect_run x.Rect y.Rect _⟩
theorem zft (x y : Command) (cx cy : Bool) : prun Try.prog ((Prim.bin .eql 63 cx cy).sem [.agg #[.int .i64 x.Kind, .int .i64 x.ID, .int .i64 x.Which, .int .i64 x.To, .int .i64 x.At.X, .int .i64 x.At.Y, .int .i64 x.F.a0.N, .string x.F.a0.Text, .int .i64 x.F.a1.N, .string x.F.a1.Text, .int .i64 x.F.a2.N, .string x.F.a2.Text, .int .i64 x.F.a3.N, .string x.F.a3.Text, .int .i64 x.Value.N, .string x.Value.Text, .int .i64 x.Client, .int .i64 x.Session, .int .i64 x.Rect.X0, .int .i64 x.Rect.Y0, .int .i64 x.Rect.X1, .int .i64 x.Rect.Y1], .agg #[.int .i64 y.Kind, .int .i64 y.ID, .int .i64 y.Which, .int .i64 y.To, .int .i64 y.At.X, .int .i64 y.At.Y, .int .i64 y.F.a0.N, .string y.F.a0.Text, .int .i64 y.F.a1.N, .string y.F.a1.Text, .int .i64 y.F.a2.N, .string y.F.a2.Text, .int .i64 y.F.a3.N, .string y.F.a3.Text, .int .i64 y.Value.N, .string y.Value.Text, .int .i64 y.Client, .int .i64 y.Session, .int .i64 y.Rect.X0, .int .i64 y.Rect.Y0, .int .i64 y.Rect.X1, .int .i64 y.Rect.Y1]]) = some (.bool (Command.eqb x y)) := pr_eqst (Command_run x y 9996) (by kernel_rfl) cx cy
def Key.eqb (x y : Key) : Bool := [x.from_ == y.from_, x.beat == y.beat].all id
theorem Key_run (x y : Key) (d : Nat) : prun Try.prog (Op.equalIn (d + 2) 102 (.agg #[.int .i64 x.from_, .int .i64 x.beat]) (.agg #[.int .i64 y.from_, .int .i64 y.beat])) = some (Key.eqb x y) := by
 refine (zdo Try.underlying102 (by kernel_rfl) (d + 1) [(_, x.from_ == y.from_), (_, x.beat == y.beat)] rfl ?_).trans (by kernel_rfl)
 intro p hp
 simp only [yav, ycl, or_false] at hp
 rcases hp with rfl | rfl
 ·exact ⟨by simp, (.int .i64 x.from_), (.int .i64 y.from_), by kernel_rfl, by kernel_rfl, zbd (k := .i64) Try.underlying3 _ _ _ _⟩
 ·exact ⟨by simp, (.int .i64 x.beat), (.int .i64 y.beat), by kernel_rfl, by kernel_rfl, zbd (k := .i64) Try.underlying3 _ _ _ _⟩
def Key.val (x : Key) : Value := .agg #[.int .i64 x.from_, .int .i64 x.beat]
theorem Key_dec (x y : Key) : Key.eqb x y = decide (x = y) := by
 cases x; cases y
 simp only [Key.eqb, yby, List.all_nil, id, Bool.and_true, Key.mk.injEq, Bool.decide_and]
 rfl
def Key_map : KeyOK Try.prog 97 Key.cells Key.val where
 kt := 102
 e := 30
 key := by kernel_rfl
 val := fun _ => rfl
 chk := fun _ _ => by kernel_rfl
 eq := fun x y => (Key_run x y 9998).trans (congrArg some (Key_dec x y))
 same := fun x => by simp [Instr.sameBits, Key.val]
 zero := by kernel_rfl
abbrev zo (d : Nat) (op : POp) : POper := ⟨some d, op, none, []⟩
abbrev lj (n : Int) : Lf := li .i64 n
abbrev be : ByteArray := ByteArray.empty
abbrev qj (n : Int) : PV := .one (li .i64 n)
abbrev qb (b : Bool) : PV := .one (lb b)
abbrev qs (s : ByteArray) : PV := .one (ls s)
abbrev qp (k o : Nat) : PV := .one (.ptr k o)
instance (n : Nat) : OfNat Operand n := ⟨.tmp n⟩
abbrev kk (n : Int) : Operand := .const (.int .i64 n)
abbrev kf : Operand := .const (.bool false)
abbrev kt : Operand := .const (.bool true)
abbrev zf (d g : Nat) (op : POp) : POper := ⟨some d, op, some (g, false), []⟩
abbrev zt (d g : Nat) (op : POp) : POper := ⟨some d, op, some (g, true), []⟩
abbrev za (d x k o : Nat) (op : POp) : POper := ⟨some d, op, none, [(x, .at_ k o)]⟩
abbrev zs (op : POp) : POper := ⟨none, op, none, []⟩
abbrev zn (op : POp) (h : List (Nat × Hint)) : POper := ⟨none, op, none, h⟩
abbrev rg (o : List POper) : PCode := .region none false o
abbrev rh (o : List POper) : PCode := .region none true o
abbrev sq (a b : PCode) : PCode := .seq a b
abbrev rt : PCode := .ret
abbrev zM (d : Nat) (x : Operand) : POper := ⟨some d, .mv x, none, []⟩
abbrev zL (d : Nat) (x : Operand) : POper := ⟨some d, .load false 1 x, none, []⟩
abbrev zG (d o : Nat) (x : Operand) : POper := ⟨some d, .faddr o x, none, []⟩
abbrev zX (d : Nat) (x : Operand) (i : Nat) : POper := ⟨some d, .ext x i, none, []⟩
abbrev zK (d : Nat) (o : BinOp) (t : Nat) (x : Operand) (n : Int) : POper := ⟨some d, .prim (.bin o t false true) [x, kk n], none, []⟩
abbrev zB (d : Nat) (o : BinOp) (t : Nat) (x y : Operand) : POper := ⟨some d, .prim (.bin o t false false) [x, y], none, []⟩
abbrev zi (d x : Nat) (op : POp) : POper := ⟨some d, op, none, [(x, .imm)]⟩
abbrev zj (d x y : Nat) (op : POp) : POper := ⟨some d, op, none, [(x, .imm), (y, .imm)]⟩
abbrev ki : Value := .int .i64 0
abbrev ks : Value := .string ByteArray.empty
abbrev kl : Value := .slice none 0 0
def hg (l : List (List Nat × Hint)) (x : Nat) : Option Hint := (l.find? fun p => p.1.contains x).map (·.2)
abbrev tz : PV := .tup []
abbrev iw : IntKind → Int → Int := IntKind.wrap
abbrev w0 (X : Frame) : List Lf := [lj X.From, lj X.Client, lj X.Session, lj X.Start, lj X.Beat, vw Event.cod X.Events]
abbrev w1 (X : Command) : List Lf := [lj X.Kind, lj 0, lj 0, lj 0, lj 0, lj 0, lj 0, ls be, lj 0, ls be, lj 0, ls be, lj 0, ls be, lj 0, ls be, lj X.Client, lj X.Session, lj 0, lj 0, lj 0, lj 0]
abbrev w2 (X : Command) : List Lf := [lj X.Kind, lj 0, lj 0, lj 0, lj 0, lj 0, lj 0, ls be, lj 0, ls be, lj 0, ls be, lj 0, ls be, lj 0, ls be, lj X.Client, lj X.Session, lj X.Rect.X0, lj X.Rect.Y0, lj X.Rect.X1, lj X.Rect.Y1]
abbrev w3 (X : Command) : List Lf := [lj X.Kind, lj X.ID, lj 0, lj 0, lj 0, lj 0, lj 0, ls be, lj 0, ls be, lj 0, ls be, lj 0, ls be, lj 0, ls be, lj X.Client, lj X.Session, lj 0, lj 0, lj 0, lj 0]
abbrev w4 (X : View_vedetteref19) : List Lf := [lj X.Client, lj X.Session, lj X.N, lj X.Start, lj X.Beat, vw Thing.cod X.L, .osl 1000001 0 0 (X.Log).length, .osl 1000002 0 0 (X.Wait).length]
abbrev w5 (X : Packet) : List Lf := [lj X.F.From, lj X.F.Client, lj X.F.Session, lj X.F.Start, lj X.F.Beat, vw Event.cod X.F.Events]
abbrev w6 (X : View_vedetteref19) : List Lf := [lj X.Client, lj X.Session, lj X.N, lj X.Start, lj X.Beat, vw Thing.cod X.L, .osl 1000001 1 0 (X.Log).length, .osl 1000002 1 0 (X.Wait).length]
abbrev w7 (X : Command) : List Lf := [lj X.Kind, lj X.ID, lj 0, lj 0, lj X.At.X, lj X.At.Y, lj 0, ls be, lj 0, ls be, lj 0, ls be, lj 0, ls be, lj 0, ls be, lj X.Client, lj X.Session, lj 0, lj 0, lj 0, lj 0]
abbrev w8 (X : Command) : List Lf := [lj X.Kind, lj X.ID, lj X.Which, lj 0, lj 0, lj 0, lj 0, ls be, lj 0, ls be, lj 0, ls be, lj 0, ls be, lj X.Value.N, ls X.Value.Text, lj X.Client, lj X.Session, lj 0, lj 0, lj 0, lj 0]
abbrev w9 (X : Command) : List Lf := [lj X.Kind, lj 0, lj X.Which, lj X.To, lj 0, lj 0, lj 0, ls be, lj 0, ls be, lj 0, ls be, lj 0, ls be, lj 0, ls be, lj X.Client, lj X.Session, lj 0, lj 0, lj 0, lj 0]
abbrev w10 (X : Client_vedetteref23) : List Lf := [lj X.V.Client, lj X.V.Session, lj X.V.N, lj X.V.Start, lj X.V.Beat, vw Thing.cod X.V.L, .osl 1000002 1 0 (X.V.Log).length, .osl 1000003 1 0 (X.V.Wait).length]
abbrev w11 (X : Client_vedetteref23) : List Lf := [lj X.V.Client, lj X.V.Session, lj X.V.N, lj X.V.Start, lj X.V.Beat, vw Thing.cod X.V.L, .osl 1000002 0 0 (X.V.Log).length, .osl 1000003 0 0 (X.V.Wait).length]
abbrev w12 (X : Command) : List (Nat × PV) := [(58, qp 3 18), (57, .agg (Rect.cells X.Rect)), (56, qp 1 18)]
abbrev w13 (X : View_vedetteref19) : List Lf := [lj X.Client, lj X.Session, lj X.N, lj X.Start, lj X.Beat, vw Thing.cod X.L, .osl 300001 0 0 (X.Log).length, .osl 300002 0 0 (X.Wait).length]
abbrev w14 (X : Delta) : List (Nat × PV) := [(1, qp 1 0), (40, .agg (A4_Field.cells X.F)), (41, qj 4)]
abbrev w15 (X : Delta) : List (Nat × PV) := [(1, qp 1 0), (40, .agg (A4_Field.cells X.F)), (41, qj 3)]
abbrev w16 (X : Delta) : List (Nat × PV) := [(1, qp 1 0), (40, .agg (A4_Field.cells X.F)), (41, qj 2)]
abbrev w17 (X : Delta) : List (Nat × PV) := [(1, qp 1 0), (40, .agg (A4_Field.cells X.F)), (41, qj 1)]
abbrev w18 (X : Delta) : List (Nat × PV) := [(2, qp 2 0), (3, qp 3 0), (4, qp 4 0), (15, .agg (A4_Field.cells X.F)), (16, qj 4)]
abbrev w19 (X : Delta) : List (Nat × PV) := [(2, qp 2 0), (3, qp 3 0), (4, qp 4 0), (15, .agg (A4_Field.cells X.F)), (16, qj 3)]
abbrev w20 (X : Delta) : List (Nat × PV) := [(2, qp 2 0), (3, qp 3 0), (4, qp 4 0), (15, .agg (A4_Field.cells X.F)), (16, qj 2)]
abbrev w21 (X : Delta) : List (Nat × PV) := [(2, qp 2 0), (3, qp 3 0), (4, qp 4 0), (15, .agg (A4_Field.cells X.F)), (16, qj 1)]
abbrev w22 (X : Client_vedetteref23) : List Lf := [lj X.V.Client, lj X.V.Session, lj X.V.N, lj X.V.Start, lj X.V.Beat, vw Thing.cod X.V.L, .osl 300006 0 0 (X.V.Log).length, .osl 300007 0 0 (X.V.Wait).length]
abbrev w23 (X : Field) : List (Nat × PV) := [(11, qb (X.Text.toList == be.toList)), (10, qb (X.Text.toList == be.toList)), (9, qb (X.Text.toList == be.toList)), (8, qs X.Text), (7, qp 1 1)]
abbrev w24 (X : Field) : List (Nat × PV) := [(2, qb (decide ((X.Text.size : Int) ≤ 12))), (16, qb (decide ((X.Text.size : Int) ≤ 12))), (15, qb (decide ((X.Text.size : Int) ≤ 12))), (14, qj (X.Text.size : Int)), (13, qs X.Text), (12, qp 1 1)]
abbrev w25 (X : Command) : List Lf := [lj X.Kind, lj 0, lj 0, lj 0, lj X.At.X, lj X.At.Y, lj 0, ls be, lj 0, ls be, lj 0, ls be, lj 0, ls be, lj 0, ls be, lj X.Client, lj X.Session, lj 0, lj 0, lj 0, lj 0]
abbrev w26 (X : Command) : List Lf := [lj X.Kind, lj X.ID, lj X.Which, lj 0, lj 0, lj 0, lj 0, ls be, lj 0, ls be, lj 0, ls be, lj 0, ls be, lj 0, ls be, lj X.Client, lj X.Session, lj 0, lj 0, lj 0, lj 0]
abbrev w27 (X : Command) : List (Nat × PV) := [(52, qp 3 3), (51, qp 3 2), (50, qj X.To), (49, qp 1 3), (48, qj X.Which), (47, qp 1 2)]
abbrev w28 (X : Command) : List Lf := [lj X.Kind, lj 0, lj X.Which, lj 0, lj 0, lj 0, lj 0, ls be, lj 0, ls be, lj 0, ls be, lj 0, ls be, lj 0, ls be, lj X.Client, lj X.Session, lj 0, lj 0, lj 0, lj 0]
abbrev w29 (X : Point) : List (Nat × PV) := [(6, qb (decide ((0 : Int) ≤ X.X))), (5, qb (decide ((0 : Int) ≤ X.X))), (4, qj X.X), (3, qp 1 0)]
abbrev w30 (X : Point) : List (Nat × PV) := [(11, qb (decide (X.X < 64))), (10, qb (decide (X.X < 64))), (9, qb (decide (X.X < 64))), (8, qj X.X), (7, qp 1 0)]
abbrev w31 (X : Point) : List (Nat × PV) := [(16, qb (decide ((0 : Int) ≤ X.Y))), (15, qb (decide ((0 : Int) ≤ X.Y))), (14, qb (decide ((0 : Int) ≤ X.Y))), (13, qj X.Y), (12, qp 1 1)]
abbrev w32 (X : Point) : List (Nat × PV) := [(2, qb (decide (X.Y < 64))), (20, qb (decide (X.Y < 64))), (19, qb (decide (X.Y < 64))), (18, qj X.Y), (17, qp 1 1)]
abbrev w33 (X : Delta) : List (Nat × PV) := [(43, qb (!(Point.eqb X.At (Point.mk 0 0)))), (42, qb (!(Point.eqb X.At (Point.mk 0 0))))]
abbrev w34 (X : Frame) : List (Nat × PV) := [(91, qj X.Beat), (90, qp 3 4), (89, qj X.From), (88, qp 3 0), (87, qp 1000000 0)]
abbrev zad (X : Packet) (t : List Lf) : List Lf := li .i64 X.From :: li .i64 X.To :: li .i64 X.Kind :: li .i64 X.Seq :: li .i64 X.C.Kind :: li .i64 X.C.ID :: li .i64 X.C.Which :: li .i64 X.C.To :: li .i64 X.C.At.X :: li .i64 X.C.At.Y :: li .i64 X.C.F.a0.N :: ls X.C.F.a0.Text :: li .i64 X.C.F.a1.N :: ls X.C.F.a1.Text :: li .i64 X.C.F.a2.N :: ls X.C.F.a2.Text :: li .i64 X.C.F.a3.N :: ls X.C.F.a3.Text :: li .i64 X.C.Value.N :: ls X.C.Value.Text :: li .i64 X.C.Client :: li .i64 X.C.Session :: li .i64 X.C.Rect.X0 :: li .i64 X.C.Rect.Y0 :: li .i64 X.C.Rect.X1 :: li .i64 X.C.Rect.Y1 :: li .i64 X.E :: li .i64 X.ID :: li .i64 X.N.From :: li .i64 X.N.Beat :: vw Thing.cod X.N.Moved :: vw Hand.cod X.N.Hands :: vw Thing.cod X.N.Given :: vw Command.cod X.N.Watch :: li .i64 X.F.From :: li .i64 X.F.Client :: li .i64 X.F.Session :: li .i64 X.F.Start :: li .i64 X.F.Beat :: vw Event.cod X.F.Events :: li .i64 X.Session :: li .i64 X.Beat :: t
abbrev W0 : List Lf := [lj 0, lj 0, lj 0, lj 0, lj 0, lj 0, lj 0, lj 0, lj 0, lj 0, lj 0, ls be, lj 0, ls be, lj 0, ls be, lj 0, ls be, lj 0, ls be, lj 0, lj 0, lj 0, lj 0, lj 0, lj 0, lj 0, lj 0, lj 0, lj 0, vw Thing.cod ([] : List Thing), vw Hand.cod ([] : List Hand), vw Thing.cod ([] : List Thing), vw Command.cod ([] : List Command), lj 0, lj 0, lj 0, lj 0, lj 0, vw Event.cod ([] : List Event), lj 0, lj 0]
abbrev W1 (X0 : ((List Packet) × Client)) (X1 : ((List Packet) × Client_vedetteref23)) : List (Nat × Option Ob) := [(300000, some (.cells (lj X0.2.id_ :: lj X0.2.n :: lj X0.2.session :: .ptr 300001 0 :: zad X0.2.asked [lb X0.2.busy, lj X0.2.seq, lj X0.2.thing, lj X0.2.e]))), (300001, some (.cells [lj X0.2.v.client, lj X0.2.v.session, lj X0.2.v.n, lj X0.2.v.beat, lj X0.2.v.start, vw Thing.cod X0.2.v.things, .osl 300002 0 0 (X0.2.v.log_).length, .mp 300003])), (300002, some (.arr 58 Event.cod.sz 0 (X0.2.v.log_).length (zaa Event.cod X0.2.v.log_))), (300003, some (.map (zaj Key.cells Event.cod X0.2.v.wait))), (300004, some (.cells (lj X1.2.Me :: lj X1.2.N :: lj X1.2.Session :: lj X1.2.Seq :: lb X1.2.Busy :: zad X1.2.Ask [lj X1.2.E, lj X1.2.ID, .ptr 300005 0]))), (300005, some (.cells [lj X1.2.V.Client, lj X1.2.V.Session, lj X1.2.V.N, lj X1.2.V.Start, lj X1.2.V.Beat, vw Thing.cod X1.2.V.L, .osl 300006 0 0 (X1.2.V.Log).length, .osl 300007 0 0 (X1.2.V.Wait).length])), (300006, some (.arr 58 Event.cod.sz 0 (X1.2.V.Log).length (zaa Event.cod X1.2.V.Log))), (300007, some (.arr 32 Frame.cod.sz 0 (X1.2.V.Wait).length (zaa Frame.cod X1.2.V.Wait)))]
abbrev W2 : List Lf := [lj 0, lj 0, lj 0, lj 0, ls be, lj 0, ls be, lj 0, ls be, lj 0, ls be]
abbrev W3 (X0 : Client) : List (Nat × Option Ob) := [(1000000, some (.cells (lj X0.id_ :: lj X0.n :: lj X0.session :: .ptr 1000001 0 :: zad X0.asked [lb X0.busy, lj X0.seq, lj X0.thing, lj X0.e]))), (1000001, some (.cells [lj X0.v.client, lj X0.v.session, lj X0.v.n, lj X0.v.beat, lj X0.v.start, vw Thing.cod X0.v.things, .osl 1000002 0 0 (X0.v.log_).length, .mp 1000003])), (1000002, some (.arr 58 Event.cod.sz 0 (X0.v.log_).length (zaa Event.cod X0.v.log_))), (1000003, some (.map (zaj Key.cells Event.cod X0.v.wait)))]
abbrev W4 (X0 : Int) (X1 : Int) (X2 : Int) (X3 : Packet) (X4 : Bool) (X5 : Int) (X6 : Int) (X7 : Int) (X8 : Int) (X9 : Int) (X10 : Int) (X11 : Int) (X12 : Int) (X13 : (List Thing)) (X14 : (List Event)) (X15 : (List (Key × (List Event)))) (X16 : Int) (X17 : Int) (X18 : Int) (X19 : Int) (X20 : Bool) (X21 : Packet) (X22 : Int) (X23 : Int) (X24 : Int) (X25 : Int) (X26 : Int) (X27 : Int) (X28 : Int) (X29 : (List Thing)) (X30 : (List Event)) (X31 : (List Frame)) : List (Nat × Option Ob) := [(300000, some (.cells (lj X0 :: lj X1 :: lj X2 :: .ptr 300001 0 :: zad X3 [lb X4, lj X5, lj X6, lj X7]))), (300001, some (.cells [lj X8, lj X9, lj X10, lj X11, lj X12, vw Thing.cod X13, .osl 300002 0 0 (X14).length, .mp 300003])), (300002, some (.arr 58 Event.cod.sz 0 (X14).length (zaa Event.cod X14))), (300003, some (.map (zaj Key.cells Event.cod X15))), (300004, some (.cells (lj X16 :: lj X17 :: lj X18 :: lj X19 :: lb X20 :: zad X21 [lj X22, lj X23, .ptr 300005 0]))), (300005, some (.cells [lj X24, lj X25, lj X26, lj X27, lj X28, vw Thing.cod X29, .osl 300006 0 0 (X30).length, .osl 300007 0 0 (X31).length])), (300006, some (.arr 58 Event.cod.sz 0 (X30).length (zaa Event.cod X30))), (300007, some (.arr 32 Frame.cod.sz 0 (X31).length (zaa Frame.cod X31)))]
abbrev W5 (X0 : Int) (X1 : Int) (X2 : Int) (X3 : Int) (X4 : Int) (X5 : (List Thing)) (X6 : (List Event)) (X7 : (List (Key × (List Event)))) : List (Nat × Option Ob) := [(1000000, some (.cells [lj X0, lj X1, lj X2, lj X3, lj X4, vw Thing.cod X5, .osl 1000001 1 0 (X6).length, .mp 1000002])), (1000001, some (.arr 58 Event.cod.sz 1 (X6).length (zaa Event.cod X6))), (1000002, some (.map (zaj Key.cells Event.cod X7)))]
abbrev W6 (X0 : Command) : List (Nat × Option Ob) := [(1, some (.cells (Command.cells X0)))]
abbrev W7 (X0 : Int) (X1 : Int) (X2 : Int) (X3 : Int) (X4 : Int) (X5 : (List Thing)) (X6 : (List Event)) (X7 : (List Frame)) : List (Nat × Option Ob) := [(1000000, some (.cells [lj X0, lj X1, lj X2, lj X3, lj X4, vw Thing.cod X5, .osl 1000001 1 0 (X6).length, .osl 1000002 1 0 (X7).length])), (1000001, some (.arr 58 Event.cod.sz 1 (X6).length (zaa Event.cod X6))), (1000002, some (.arr 32 Frame.cod.sz 1 (X7).length (zaa Frame.cod X7)))]
abbrev W8 : List Nat := [300000, 300001, 300002, 300003, 300004, 300005, 300006, 300007, 300008, 300009, 300010, 300011, 300012, 300013, 300014, 300015, 300016, 300017, 300018, 300019, 300020, 300021, 300022, 300023]
abbrev W9 (X0 : View) : List (Nat × Option Ob) := [(1000000, some (.cells [lj X0.client, lj X0.session, lj X0.n, lj X0.beat, lj X0.start, vw Thing.cod X0.things, .osl 1000001 0 0 (X0.log_).length, .mp 1000002])), (1000001, some (.arr 58 Event.cod.sz 0 (X0.log_).length (zaa Event.cod X0.log_))), (1000002, some (.map (zaj Key.cells Event.cod X0.wait)))]
abbrev W10 (X0 : Delta) : List (Nat × Option Ob) := [(1, some (.cells (Delta.cells X0)))]
abbrev W11 (X0 : (List Packet)) (X1 : Client) (X2 : Int) (X3 : (Int × View)) : List (Nat × Option Ob) := [(100003, some (.arr 73 Packet.cod.sz 0 ((X0 ++ [(Packet.mk (iw .i64 (100 + X1.id_)) X2 5 0 (Command.mk 0 0 0 0 (Point.mk 0 0) (A4.mk (Field.mk 0 be) (Field.mk 0 be) (Field.mk 0 be) (Field.mk 0 be)) (Field.mk 0 be) 0 0 (Rect.mk 0 0 0 0)) 0 0 (Note.mk 0 0 ([] : List Thing) ([] : List Hand) ([] : List Thing) ([] : List Command)) (Frame.mk 0 0 0 0 0 ([] : List Event)) X1.session X3.1)])).length (zaa Packet.cod (X0 ++ [(Packet.mk (iw .i64 (100 + X1.id_)) X2 5 0 (Command.mk 0 0 0 0 (Point.mk 0 0) (A4.mk (Field.mk 0 be) (Field.mk 0 be) (Field.mk 0 be) (Field.mk 0 be)) (Field.mk 0 be) 0 0 (Rect.mk 0 0 0 0)) 0 0 (Note.mk 0 0 ([] : List Thing) ([] : List Hand) ([] : List Thing) ([] : List Command)) (Frame.mk 0 0 0 0 0 ([] : List Event)) X1.session X3.1)])))), (1000000, some (.cells (lj X1.id_ :: lj X1.n :: lj X1.session :: .ptr 1000001 0 :: zad X1.asked [lb X1.busy, lj X1.seq, lj X1.thing, lj X1.e]))), (1000001, some (.cells [lj X3.2.client, lj X3.2.session, lj X3.2.n, lj X3.2.beat, lj X3.2.start, vw Thing.cod X3.2.things, .osl 1000002 1 0 (X3.2.log_).length, .mp 1000003])), (1000002, some (.arr 58 Event.cod.sz 1 (X3.2.log_).length (zaa Event.cod X3.2.log_))), (1000003, some (.map (zaj Key.cells Event.cod X3.2.wait)))]
abbrev W12 (X0 : (List Packet)) (X1 : Client) (X2 : Int) (X3 : Int) (X4 : Int) (X5 : Int) (X6 : Int) (X7 : (List Thing)) (X8 : (List Event)) (X9 : (List (Key × (List Event)))) : List (Nat × Option Ob) := [(100003, some (.arr 73 Packet.cod.sz 0 (X0).length (zaa Packet.cod X0))), (1000000, some (.cells (lj X1.id_ :: lj X1.n :: lj X1.session :: .ptr 1000001 0 :: zad X1.asked [lb X1.busy, lj X1.seq, lj X1.thing, lj X1.e]))), (1000001, some (.cells [lj X2, lj X3, lj X4, lj X5, lj X6, vw Thing.cod X7, .osl 1000002 1 0 (X8).length, .mp 1000003])), (1000002, some (.arr 58 Event.cod.sz 1 (X8).length (zaa Event.cod X8))), (1000003, some (.map (zaj Key.cells Event.cod X9)))]
abbrev W13 (X0 : (Packet × Int × Client)) (X1 : (Packet × Int × Client_vedetteref23)) : List (Nat × Option Ob) := [(300000, some (.cells (lj X0.2.2.id_ :: lj X0.2.2.n :: lj X0.2.2.session :: .ptr 300001 0 :: zad X0.2.2.asked [lb X0.2.2.busy, lj X0.2.2.seq, lj X0.2.2.thing, lj X0.2.2.e]))), (300001, some (.cells [lj X0.2.2.v.client, lj X0.2.2.v.session, lj X0.2.2.v.n, lj X0.2.2.v.beat, lj X0.2.2.v.start, vw Thing.cod X0.2.2.v.things, .osl 300002 0 0 (X0.2.2.v.log_).length, .mp 300003])), (300002, some (.arr 58 Event.cod.sz 0 (X0.2.2.v.log_).length (zaa Event.cod X0.2.2.v.log_))), (300003, some (.map (zaj Key.cells Event.cod X0.2.2.v.wait))), (300004, some (.cells (lj X1.2.2.Me :: lj X1.2.2.N :: lj X1.2.2.Session :: lj X1.2.2.Seq :: lb X1.2.2.Busy :: zad X1.2.2.Ask [lj X1.2.2.E, lj X1.2.2.ID, .ptr 300005 0]))), (300005, some (.cells [lj X1.2.2.V.Client, lj X1.2.2.V.Session, lj X1.2.2.V.N, lj X1.2.2.V.Start, lj X1.2.2.V.Beat, vw Thing.cod X1.2.2.V.L, .osl 300006 0 0 (X1.2.2.V.Log).length, .osl 300007 0 0 (X1.2.2.V.Wait).length])), (300006, some (.arr 58 Event.cod.sz 0 (X1.2.2.V.Log).length (zaa Event.cod X1.2.2.V.Log))), (300007, some (.arr 32 Frame.cod.sz 0 (X1.2.2.V.Wait).length (zaa Frame.cod X1.2.2.V.Wait)))]
abbrev W14 (X0 : View) : List (Nat × Option Ob) := [(300000, some (.cells [lj X0.client, lj X0.session, lj X0.n, lj X0.beat, lj X0.start, vw Thing.cod X0.things, .osl 300001 0 0 (X0.log_).length, .mp 300002])), (300001, some (.arr 58 Event.cod.sz 0 (X0.log_).length (zaa Event.cod X0.log_))), (300002, some (.map (zaj Key.cells Event.cod X0.wait)))]
abbrev W15 (X0 : Thing) : List (Nat × Option Ob) := [(1, some (.cells (Thing.cells X0)))]
abbrev W16 (X0 : Command) : List Lf := [lj X0.Kind, lj 0, lj 0, lj 0, lj X0.At.X, lj X0.At.Y, lj X0.F.a0.N, ls X0.F.a0.Text, lj X0.F.a1.N, ls X0.F.a1.Text, lj X0.F.a2.N, ls X0.F.a2.Text, lj X0.F.a3.N, ls X0.F.a3.Text, lj 0, ls be, lj X0.Client, lj X0.Session, lj 0, lj 0, lj 0, lj 0]
abbrev W17 (X0 : (List Packet)) (X1 : Client) (X2 : Int) (X3 : (Int × View)) : List (Nat × Option Ob) := [(100003, some (.arr 73 Packet.cod.sz (0 + 1) ((X0 ++ [(Packet.mk (iw .i64 (100 + X1.id_)) X2 5 0 (Command.mk 0 0 0 0 (Point.mk 0 0) (A4.mk (Field.mk 0 be) (Field.mk 0 be) (Field.mk 0 be) (Field.mk 0 be)) (Field.mk 0 be) 0 0 (Rect.mk 0 0 0 0)) 0 0 (Note.mk 0 0 ([] : List Thing) ([] : List Hand) ([] : List Thing) ([] : List Command)) (Frame.mk 0 0 0 0 0 ([] : List Event)) X1.session X3.1)])).length (zaa Packet.cod (X0 ++ [(Packet.mk (iw .i64 (100 + X1.id_)) X2 5 0 (Command.mk 0 0 0 0 (Point.mk 0 0) (A4.mk (Field.mk 0 be) (Field.mk 0 be) (Field.mk 0 be) (Field.mk 0 be)) (Field.mk 0 be) 0 0 (Rect.mk 0 0 0 0)) 0 0 (Note.mk 0 0 ([] : List Thing) ([] : List Hand) ([] : List Thing) ([] : List Command)) (Frame.mk 0 0 0 0 0 ([] : List Event)) X1.session X3.1)]))))]
abbrev W19 : List Nat := [1000000, 1000001, 1000002]
abbrev W20 (X0 : Thing) (X1 : (List Thing)) : List (Nat × Option Ob) := [(3, some (.cells (Thing.cells X0))), (100005, some (.arr 54 Thing.cod.sz 0 (X1).length (zaa Thing.cod X1)))]
abbrev W21 : List Lf := [lj 0, lj 0, lj 0, lj 0, lj 0, lj 0, lj 0, ls be, lj 0, ls be, lj 0, ls be, lj 0, ls be, lj 0, ls be, lj 0, lj 0, lj 0, lj 0, lj 0, lj 0]
abbrev W22 (X0 : (List Step)) (X1 : Int) : List (Nat × PV) := [(2, .one (vw Step.cod X0)), (7, qp 300000 0), (8, qp 300004 0), (9, qj X1)]
abbrev W23 (X0 : (List Packet)) (X1 : Client_vedetteref23) : List (Nat × Option Ob) := [(100003, some (.arr 73 Packet.cod.sz 0 (X0).length (zaa Packet.cod X0))), (1000000, some (.cells (lj X1.Me :: lj X1.N :: lj X1.Session :: lj X1.Seq :: lb X1.Busy :: zad X1.Ask [lj X1.E, lj X1.ID, .ptr 1000001 0]))), (1000001, some (.cells [lj X1.V.Client, lj X1.V.Session, lj X1.V.N, lj X1.V.Start, lj X1.V.Beat, vw Thing.cod X1.V.L, .osl 1000002 1 0 (X1.V.Log).length, .osl 1000003 1 0 (X1.V.Wait).length])), (1000002, some (.arr 58 Event.cod.sz 1 (X1.V.Log).length (zaa Event.cod X1.V.Log))), (1000003, some (.arr 32 Frame.cod.sz 1 (X1.V.Wait).length (zaa Frame.cod X1.V.Wait)))]
abbrev W24 (X0 : Int) (X1 : Int) (X2 : (Int × Int × Int × Int × Int × Int × (List Thing) × (List Event) × (List Frame))) (X3 : Packet) (X4 : Int) (X5 : Int) (X6 : Int) (X7 : Int) (X8 : Int) (X9 : (List Thing)) (X10 : (List Event)) (X11 : (List Frame)) : List (Nat × Option Ob) := [(300004, some (.cells (lj X0 :: lj X1 :: lj X2.1 :: lj 0 :: lb false :: zad X3 [lj 0, lj 0, .ptr 300011 0]))), (300005, some (.cells [lj X4, lj X5, lj X6, lj X7, lj X8, vw Thing.cod X9, .osl 300006 (0 + 1) 0 (X10).length, .osl 300007 (0 + 1) 0 (X11).length])), (300006, some (.arr 58 Event.cod.sz (0 + 1) (X10).length (zaa Event.cod X10))), (300007, some (.arr 32 Frame.cod.sz (0 + 1) (X11).length (zaa Frame.cod X11))), (300011, some (.cells [lj X2.2.1, lj X2.2.2.1, lj X2.2.2.2.1, lj X2.2.2.2.2.1, lj X2.2.2.2.2.2.1, vw Thing.cod X2.2.2.2.2.2.2.1, .osl 300012 0 0 (X2.2.2.2.2.2.2.2.1).length, .osl 300013 0 0 (X2.2.2.2.2.2.2.2.2).length])), (300012, some (.arr 58 Event.cod.sz 0 (X2.2.2.2.2.2.2.2.1).length (zaa Event.cod X2.2.2.2.2.2.2.2.1))), (300013, some (.arr 32 Frame.cod.sz 0 (X2.2.2.2.2.2.2.2.2).length (zaa Frame.cod X2.2.2.2.2.2.2.2.2)))]
abbrev W25 (X0 : View) : List Lf := [lj X0.client, lj X0.session, lj X0.n, lj X0.beat, lj X0.start, vw Thing.cod X0.things, .osl 1000001 1 0 (X0.log_).length, .mp 1000002]
abbrev W26 : List Nat := [10, 12, 300000, 300001, 300002, 300003, 300004, 300005, 300006, 300007, 300008, 300009, 300010, 300011, 300012, 300013]
abbrev W27 (X0 : Int) (X1 : Int) : List Lf := [lj (imin (imax X0 0) 3), lj (imin (imax X1 1) 4), lj 0, .val (.pointer none), lj 0, lj 0, lj 0, lj 0, lj 0, lj 0, lj 0, lj 0, lj 0, lj 0, lj 0, ls be, lj 0, ls be, lj 0, ls be, lj 0, ls be, lj 0, ls be, lj 0, lj 0, lj 0, lj 0, lj 0, lj 0, lj 0, lj 0, lj 0, lj 0, vw Thing.cod ([] : List Thing), vw Hand.cod ([] : List Hand), vw Thing.cod ([] : List Thing), vw Command.cod ([] : List Command), lj 0, lj 0, lj 0, lj 0, lj 0, vw Event.cod ([] : List Event), lj 0, lj 0, lb false, lj 0, lj 0, lj 0]
abbrev W28 : List Nat := [300000, 300001, 300002, 300003]
abbrev W29 (X0 : (Int × View_vedetteref19)) : List Lf := [lj X0.2.Client, lj X0.2.Session, lj X0.2.N, lj X0.2.Start, lj X0.2.Beat, vw Thing.cod X0.2.L, .osl 1000001 1 0 (X0.2.Log).length, .osl 1000002 1 0 (X0.2.Wait).length]
abbrev W30 (X0 : Client) : List (Nat × Option Ob) := [(300000, some (.cells (lj X0.id_ :: lj X0.n :: lj X0.session :: .ptr 300001 0 :: zad X0.asked [lb X0.busy, lj X0.seq, lj X0.thing, lj X0.e]))), (300001, some (.cells [lj X0.v.client, lj X0.v.session, lj X0.v.n, lj X0.v.beat, lj X0.v.start, vw Thing.cod X0.v.things, .osl 300002 0 0 (X0.v.log_).length, .mp 300003])), (300002, some (.arr 58 Event.cod.sz 0 (X0.v.log_).length (zaa Event.cod X0.v.log_))), (300003, some (.map (zaj Key.cells Event.cod X0.v.wait)))]
abbrev W31 (X0 : Thing) (X1 : Delta) : List (Nat × Option Ob) := [(2, some (.cells (Thing.cells X0))), (3, some (.cells (Delta.cells X1))), (4, some (.cells W2))]
abbrev W32 (X0 : Delta) (X1 : Thing) : List (Nat × Option Ob) := [(3, some (.cells (Delta.cells X0))), (4, some (.cells W2)), (5, some (.cells (Thing.cells X1)))]
abbrev W33 : List Nat := [300000, 300001, 300002, 300003, 300004, 300005, 300006, 300007]
abbrev W34 (X0 : Thing) (X1 : Delta) : List Lf := [lj X0.ID, lj X0.At.X, lj X0.At.Y, lj X0.F.a0.N, ls X0.F.a0.Text, lj X0.F.a1.N, ls X0.F.a1.Text, lj X0.F.a2.N, ls X0.F.a2.Text, lj X1.F.a3.N, ls X1.F.a3.Text]
abbrev W35 (X0 : Thing) (X1 : Delta) : List Lf := [lj X0.ID, lj X0.At.X, lj X0.At.Y, lj X0.F.a0.N, ls X0.F.a0.Text, lj X0.F.a1.N, ls X0.F.a1.Text, lj X1.F.a2.N, ls X1.F.a2.Text, lj X0.F.a3.N, ls X0.F.a3.Text]
abbrev W36 (X0 : Thing) (X1 : Delta) : List Lf := [lj X0.ID, lj X0.At.X, lj X0.At.Y, lj X0.F.a0.N, ls X0.F.a0.Text, lj X1.F.a1.N, ls X1.F.a1.Text, lj X0.F.a2.N, ls X0.F.a2.Text, lj X0.F.a3.N, ls X0.F.a3.Text]
abbrev W37 (X0 : Thing) (X1 : Delta) : List Lf := [lj X0.ID, lj X0.At.X, lj X0.At.Y, lj X1.F.a0.N, ls X1.F.a0.Text, lj X0.F.a1.N, ls X0.F.a1.Text, lj X0.F.a2.N, ls X0.F.a2.Text, lj X0.F.a3.N, ls X0.F.a3.Text]
abbrev W38 (X0 : Thing) (X1 : Delta) : List Lf := [lj X0.ID, lj X1.At.X, lj X1.At.Y, lj X0.F.a0.N, ls X0.F.a0.Text, lj X0.F.a1.N, ls X0.F.a1.Text, lj X0.F.a2.N, ls X0.F.a2.Text, lj X0.F.a3.N, ls X0.F.a3.Text]
abbrev W39 (X0 : View) : List Lf := [lj X0.client, lj X0.session, lj X0.n, lj X0.beat, lj X0.start, vw Thing.cod X0.things, .osl 1000001 0 0 (X0.log_).length, .mp 1000002]
abbrev W40 (X0 : (List Thing)) (X1 : (List Thing)) (X2 : Bool) (X3 : Int) : List (Nat × PV) := [(0, .one (vw Thing.cod X0)), (3, qp 3 0), (5, .one (.osl 100005 0 0 (X1).length)), (6, qb X2), (7, qj X3)]
abbrev W41 (X0 : (List Packet)) (X1 : Client) (X2 : Int) (X3 : (Int × View)) : List (Nat × PV) := [(0, qp 1000000 0), (3, .one (.osl 100003 0 0 ((X0 ++ [(Packet.mk (iw .i64 (100 + X1.id_)) X2 5 0 (Command.mk 0 0 0 0 (Point.mk 0 0) (A4.mk (Field.mk 0 be) (Field.mk 0 be) (Field.mk 0 be) (Field.mk 0 be)) (Field.mk 0 be) 0 0 (Rect.mk 0 0 0 0)) 0 0 (Note.mk 0 0 ([] : List Thing) ([] : List Hand) ([] : List Thing) ([] : List Command)) (Frame.mk 0 0 0 0 0 ([] : List Event)) X1.session X3.1)])).length)), (19, qj X1.n), (20, qj (iw .i64 (X2 + 1)))]
abbrev W42 (X0 : (Int × View_vedetteref19)) : List (Nat × Option Ob) := [(1000000, some (.cells [lj X0.2.Client, lj X0.2.Session, lj X0.2.N, lj X0.2.Start, lj X0.2.Beat, vw Thing.cod X0.2.L, .osl 1000001 (1 + 1) 0 (X0.2.Log).length, .osl 1000002 (1 + 1) 0 (X0.2.Wait).length])), (1000001, some (.arr 58 Event.cod.sz (1 + 1) (X0.2.Log).length (zaa Event.cod X0.2.Log))), (1000002, some (.arr 32 Frame.cod.sz (1 + 1) (X0.2.Wait).length (zaa Frame.cod X0.2.Wait)))]
abbrev W43 (X0 : (Int × View_vedetteref19)) : List (Nat × Option Ob) := [(1000000, some (.cells [lj X0.2.Client, lj X0.2.Session, lj X0.2.N, lj X0.2.Start, lj X0.2.Beat, vw Thing.cod X0.2.L, .osl 1000001 (0 + 1) 0 (X0.2.Log).length, .osl 1000002 (0 + 1) 0 (X0.2.Wait).length])), (1000001, some (.arr 58 Event.cod.sz (0 + 1) (X0.2.Log).length (zaa Event.cod X0.2.Log))), (1000002, some (.arr 32 Frame.cod.sz (0 + 1) (X0.2.Wait).length (zaa Frame.cod X0.2.Wait)))]
abbrev W44 (X0 : (Int × View)) : List (Nat × Option Ob) := [(1000001, some (.cells [lj X0.2.client, lj X0.2.session, lj X0.2.n, lj X0.2.beat, lj X0.2.start, vw Thing.cod X0.2.things, .osl 1000002 ((1 + 1) + 1) 0 (X0.2.log_).length, .mp 1000003])), (1000002, some (.arr 58 Event.cod.sz ((1 + 1) + 1) (X0.2.log_).length (zaa Event.cod X0.2.log_))), (1000003, some (.map (zaj Key.cells Event.cod X0.2.wait)))]
abbrev W45 (X0 : Int) (X1 : Int) (X2 : Int) (X3 : Int) (X4 : Int) (X5 : (List Thing)) (X6 : (List Event)) (X7 : (List Frame)) : List Lf := [lj X0, lj X1, lj X2, lj X3, lj X4, vw Thing.cod X5, .osl 1000001 1 0 (X6).length, .osl 1000002 1 0 (X7).length]
abbrev W46 (X0 : Client_vedetteref23) : List Lf := [lj X0.E, lj X0.ID, .ptr 1000001 0]
abbrev W47 (X0 : View_vedetteref19) : List (Nat × Option Ob) := [(1000000, some (.cells [lj X0.Client, lj X0.Session, lj X0.N, lj X0.Start, lj X0.Beat, vw Thing.cod X0.L, .osl 1000001 1 0 (X0.Log).length, .osl 1000002 1 0 (X0.Wait).length])), (1000001, some (.arr 58 Event.cod.sz 1 (X0.Log).length (zaa Event.cod X0.Log))), (1000002, some (.arr 32 Frame.cod.sz 1 (X0.Wait).length (zaa Frame.cod X0.Wait)))]
abbrev W48 (X0 : (Int × View)) : List (Nat × Option Ob) := [(1000001, some (.cells [lj X0.2.client, lj X0.2.session, lj X0.2.n, lj X0.2.beat, lj X0.2.start, vw Thing.cod X0.2.things, .osl 1000002 (1 + 1) 0 (X0.2.log_).length, .mp 1000003])), (1000002, some (.arr 58 Event.cod.sz (1 + 1) (X0.2.log_).length (zaa Event.cod X0.2.log_))), (1000003, some (.map (zaj Key.cells Event.cod X0.2.wait)))]
abbrev W49 (X0 : (List Thing)) : List (Nat × Option Ob) := [(300000, some (.arr 54 Thing.cod.sz 0 (X0).length (zaa Thing.cod X0)))]
abbrev W50 (X0 : (List Packet)) (X1 : Client) (X2 : Int) (X3 : (Int × View)) : List (Nat × PV) := [(47, .one (.osl 100003 (0 + 1) 0 ((X0 ++ [(Packet.mk (iw .i64 (100 + X1.id_)) X2 5 0 (Command.mk 0 0 0 0 (Point.mk 0 0) (A4.mk (Field.mk 0 be) (Field.mk 0 be) (Field.mk 0 be) (Field.mk 0 be)) (Field.mk 0 be) 0 0 (Rect.mk 0 0 0 0)) 0 0 (Note.mk 0 0 ([] : List Thing) ([] : List Hand) ([] : List Thing) ([] : List Command)) (Frame.mk 0 0 0 0 0 ([] : List Event)) X1.session X3.1)])).length))]
abbrev W51 : List Nat := [100003, 1000000, 1000001, 1000002, 1000003]
abbrev W52 (X0 : Command) (X1 : Client) : List Lf := [lj X0.Kind, lj X0.ID, lj X0.Which, lj X0.To, lj X0.At.X, lj X0.At.Y, lj X0.F.a0.N, ls X0.F.a0.Text, lj X0.F.a1.N, ls X0.F.a1.Text, lj X0.F.a2.N, ls X0.F.a2.Text, lj X0.F.a3.N, ls X0.F.a3.Text, lj X0.Value.N, ls X0.Value.Text, lj X1.id_, lj X1.session, lj X0.Rect.X0, lj X0.Rect.Y0, lj X0.Rect.X1, lj X0.Rect.Y1]
abbrev W53 (X0 : Command) (X1 : Client_vedetteref23) : List Lf := [lj X0.Kind, lj X0.ID, lj X0.Which, lj X0.To, lj X0.At.X, lj X0.At.Y, lj X0.F.a0.N, ls X0.F.a0.Text, lj X0.F.a1.N, ls X0.F.a1.Text, lj X0.F.a2.N, ls X0.F.a2.Text, lj X0.F.a3.N, ls X0.F.a3.Text, lj X0.Value.N, ls X0.Value.Text, lj X1.Me, lj X1.Session, lj X0.Rect.X0, lj X0.Rect.Y0, lj X0.Rect.X1, lj X0.Rect.Y1]
abbrev W54 : List Nat := [1000001, 1000002, 1000003]
abbrev W55 : List Nat := [3, 1000000, 1000001, 1000002]
abbrev W56 : List (Nat × PV) := [(1, qp 1 0), (3, qb false)]
abbrev W57 (X0 : (List Thing)) (X1 : Thing) : List (Nat × Option Ob) := [(100005, some (.arr 54 Thing.cod.sz (0 + 1) ((X0 ++ [X1])).length (zaa Thing.cod (X0 ++ [X1]))))]
abbrev W58 (X0 : (Int × Client)) : List Lf := [lb X0.2.busy, lj X0.2.seq, lj X0.2.thing, lj X0.2.e]
abbrev W59 : List Nat := [300004, 300005, 300006, 300007]
abbrev W60 (X0 : Frame) (X1 : Int) (X2 : Int) (X3 : Int) (X4 : Int) (X5 : Int) (X6 : (List Thing)) (X7 : (List Event)) (X8 : (List Frame)) : List (Nat × Option Ob) := [(3, some (.cells [lj X0.From, lj X0.Client, lj X0.Session, lj X0.Start, lj X0.Beat, vw Event.cod X0.Events])), (1000000, some (.cells [lj X1, lj X2, lj X3, lj X4, lj X5, vw Thing.cod X6, .osl 1000001 1 0 (X7).length, .osl 1000002 1 0 (X8).length])), (1000001, some (.arr 58 Event.cod.sz 1 (X7).length (zaa Event.cod X7))), (1000002, some (.arr 32 Frame.cod.sz 1 (X8).length (zaa Frame.cod X8)))]
abbrev W61 : List (Nat × PV) := [(0, qp 1000000 0), (3, qp 3 0)]
abbrev W62 : List Nat := [70, 69, 68, 67, 66, 65, 64, 63, 62, 61, 60, 59, 58, 57, 56, 55]
abbrev W63 (X0 : Bool) (X1 : Bool) : List (Nat × PV) := [(1, qp 1 0), (5, qb X0), (6, qb X1), (7, qb false)]
abbrev W64 (X0 : (Int × View_vedetteref19)) : List (Nat × Option Ob) := [(1000000, some (.cells (W29 X0))), (1000001, some (.arr 58 Event.cod.sz 1 (X0.2.Log).length (zaa Event.cod X0.2.Log))), (1000002, some (.arr 32 Frame.cod.sz 1 (X0.2.Wait).length (zaa Frame.cod X0.2.Wait)))]
abbrev W65 (X0 : (List Packet)) (X1 : Client) (X2 : Int) : List (Nat × PV) := [(0, qp 1000000 0), (3, .one (.osl 100003 0 0 (X0).length)), (19, qj X1.n), (20, qj X2)]
abbrev W66 : List (Nat × PV) := [(3, qp 3 0), (4, qp 4 0), (5, qp 5 0), (6, qj 4)]
abbrev W67 : List (Nat × PV) := [(3, qp 3 0), (4, qp 4 0), (5, qp 5 0), (6, qj 3)]
abbrev W68 : List (Nat × PV) := [(3, qp 3 0), (4, qp 4 0), (5, qp 5 0), (6, qj 2)]
abbrev W69 : List (Nat × PV) := [(3, qp 3 0), (4, qp 4 0), (5, qp 5 0), (6, qj 1)]
abbrev W70 (X0 : Client) : List Lf := [lb X0.busy, lj X0.seq, lj X0.thing, lj X0.e]
abbrev W71 (X0 : Client) : List Lf := [lj X0.v.client, lj X0.v.session, lj X0.v.n, lj X0.v.beat, lj X0.v.start, vw Thing.cod X0.v.things, .osl 1000002 1 0 (X0.v.log_).length, .mp 1000003]
abbrev W72 (X0 : Client) : List Lf := [lj X0.v.client, lj X0.v.session, lj X0.v.n, lj X0.v.beat, lj X0.v.start, vw Thing.cod X0.v.things, .osl 1000002 0 0 (X0.v.log_).length, .mp 1000003]
abbrev W73 (X0 : Bool) : List (Nat × PV) := [(1, qp 1 0), (3, qb X0), (4, qj 4)]
abbrev W74 (X0 : Bool) : List (Nat × PV) := [(1, qp 1 0), (3, qb X0), (4, qj 3)]
abbrev W75 (X0 : Bool) : List (Nat × PV) := [(1, qp 1 0), (3, qb X0), (4, qj 2)]
abbrev W76 (X0 : Bool) : List (Nat × PV) := [(1, qp 1 0), (3, qb X0), (4, qj 1)]
abbrev W77 (X0 : Delta) : List Lf := [lj X0.F.a3.N, ls X0.F.a3.Text]
abbrev W78 (X0 : Delta) : List Lf := [lj X0.F.a2.N, ls X0.F.a2.Text]
abbrev W79 (X0 : Delta) : List Lf := [lj X0.F.a1.N, ls X0.F.a1.Text]
abbrev W80 (X0 : Delta) : List Lf := [lj X0.F.a0.N, ls X0.F.a0.Text]
abbrev W81 (X0 : (List Thing)) : List (Nat × Option Ob) := [(100005, some (.arr 54 Thing.cod.sz 0 (X0).length (zaa Thing.cod X0)))]
abbrev W82 (X0 : (Int × Int × Int × Int × Int × Int × (List Thing) × (List Event) × (List Frame))) : List Lf := [lj X0.2.1, lj X0.2.2.1, lj X0.2.2.2.1, lj X0.2.2.2.2.1, lj X0.2.2.2.2.2.1, vw Thing.cod X0.2.2.2.2.2.2.1, .osl 1000005 0 0 (X0.2.2.2.2.2.2.2.1).length, .osl 1000006 0 0 (X0.2.2.2.2.2.2.2.2).length]
abbrev W83 (X0 : Thing) : List PV := [.one (vw Field.cod [X0.F.a0, X0.F.a1, X0.F.a2, X0.F.a3]), .one (.val (.func (.func 79) #[] #[]))]
abbrev W84 : List (Nat × PV) := [(71, qb false), (70, qb false)]
abbrev W85 (X0 : Field) : List (Nat × Option Ob) := [(1, some (.cells [lj X0.N, ls X0.Text]))]
abbrev ow0 : TypeId → List (Nat × TypeId × Nat) := fun t => match t with
  | 32 => [(5, 1000000058, 25)]
  | 36 => [(5, 1000000054, 11), (6, 58, 25), (7, 32, 6)]
  | 71 => [(2, 1000000054, 11), (3, 1000000156, 2), (4, 1000000054, 11), (5, 1000000063, 22)]
  | 73 => [(30, 1000000054, 11), (31, 1000000156, 2), (32, 1000000054, 11), (33, 1000000063, 22), (39, 1000000058, 25)]
  | 93 => [(35, 1000000054, 11), (36, 1000000156, 2), (37, 1000000054, 11), (38, 1000000063, 22), (44, 1000000058, 25)]
  | 99 => [(5, 1000000054, 11), (6, 58, 25)]
  | 109 => [(34, 1000000054, 11), (35, 1000000156, 2), (36, 1000000054, 11), (37, 1000000063, 22), (43, 1000000058, 25)]
  | _ => []
end Go.Proofs.Ythdabpmcojmhhaa
