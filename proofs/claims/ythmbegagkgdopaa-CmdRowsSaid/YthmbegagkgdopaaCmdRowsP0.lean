/-
  Functions of the program as functions of Lean. No condition.
-/
import Derived.Test.YthmbegagkgdopaaCmdRowsE
namespace Go.Proofs.Ythmbegagkgdopaa
open Go Go.Rx
set_option maxRecDepth 100000
set_option linter.unusedVariables false
set_option linter.unusedSimpArgs false
set_option linter.unnecessarySimpa false
-- 26: vedette/fields.IsField
def F26_e : Bool → PV × List Ob := fun r => (.one (lb r), [])
def F26 (n : Nat) (a0 : Field) : Option Bool :=
  if a0.N == 0 then
    some (decide ((a0.Text.size : Int) ≤ 12))
  else
    if a0.Text.toList == ByteArray.empty.toList then
      some (decide ((a0.Text.size : Int) ≤ 12))
    else
      some false
theorem F26_ok (n : Nat) (a0 : Field) : ∀ r, F26 n a0 = some r → D 26 [.agg [li .i64 a0.N, ls a0.Text]] [] = some (F26_e r) := by
  refine fn_to (D := D) (n := n + 8) (nt := 17) (rs := pc26_r) (c := pc26_c5) (L := [(0, .agg [li .i64 a0.N, ls a0.Text])]) (M := []) (k := 0) rfl rfl rfl rfl rfl rfl rfl ?_
  unfold F26
  refine Sim.seq ?_
  refine Sim.region0 ?_
  refine SimI.run 2 [(2, .one (lb false)), (1, .one (.ptr 1 0))] [(1, some (.cells [li .i64 a0.N, ls a0.Text]))] (by kernel_rfl) ?_
  refine SimI.done (by kernel_rfl) ?_
  refine SimE.thenN ?_
  refine Sim.seq ?_
  refine Sim.region0 ?_
  refine SimI.run 4 [(6, .one (lb (a0.N == 0))), (5, .one (lb (a0.N == 0))), (4, .one (li .i64 a0.N)), (3, .one (.ptr 1 0))] [] (by kernel_rfl) ?_
  refine SimI.split 6 (a0.N == 0) (by kernel_rfl) ?_ ?_
  · refine SimI.run 11 [(2, .one (lb (decide ((a0.Text.size : Int) ≤ 12)))), (16, .one (lb (decide ((a0.Text.size : Int) ≤ 12)))), (15, .one (lb (decide ((a0.Text.size : Int) ≤ 12)))), (14, .one (li .i64 (a0.Text.size : Int))), (13, .one (ls a0.Text)), (12, .one (.ptr 1 1)), (11, .one (lb true)), (10, .one (lb true)), (9, .tup []), (8, .tup []), (7, .tup [])] [] (by kernel_rfl) ?_
    refine SimI.done (by kernel_rfl) ?_
    refine SimE.thenN ?_
    refine Sim.ret ?_
    exact SimE.fin (by kernel_rfl)
  · refine SimI.run 5 [(11, .one (lb (a0.Text.toList == ByteArray.empty.toList))), (10, .one (lb (a0.Text.toList == ByteArray.empty.toList))), (9, .one (lb (a0.Text.toList == ByteArray.empty.toList))), (8, .one (ls a0.Text)), (7, .one (.ptr 1 1))] [] (by kernel_rfl) ?_
    refine SimI.split 11 (a0.Text.toList == ByteArray.empty.toList) (by kernel_rfl) ?_ ?_
    · refine SimI.run 6 [(2, .one (lb (decide ((a0.Text.size : Int) ≤ 12)))), (16, .one (lb (decide ((a0.Text.size : Int) ≤ 12)))), (15, .one (lb (decide ((a0.Text.size : Int) ≤ 12)))), (14, .one (li .i64 (a0.Text.size : Int))), (13, .one (ls a0.Text)), (12, .one (.ptr 1 1))] [] (by kernel_rfl) ?_
      refine SimI.done (by kernel_rfl) ?_
      refine SimE.thenN ?_
      refine Sim.ret ?_
      exact SimE.fin (by kernel_rfl)
    · refine SimI.run 6 [(2, .one (lb false)), (16, .one (lb false)), (15, .tup []), (14, .tup []), (13, .tup []), (12, .tup [])] [] (by kernel_rfl) ?_
      refine SimI.done (by kernel_rfl) ?_
      refine SimE.thenN ?_
      refine Sim.ret ?_
      exact SimE.fin (by kernel_rfl)


-- 58: vedette/cmd.core
def F58_e : Command → PV × List Ob := fun r => (.agg (Command.cells r), [])
def F58 (n : Nat) (a0 : Command) : Option Command :=
  if a0.Kind == 1 then
    some (Command.mk a0.Kind 0 0 0 a0.At a0.F (Field.mk 0 ByteArray.empty) a0.Client a0.Session (Rect.mk 0 0 0 0))
  else
    if a0.Kind == 2 then
      some (Command.mk a0.Kind a0.ID 0 0 a0.At (A4.mk (Field.mk 0 ByteArray.empty) (Field.mk 0 ByteArray.empty) (Field.mk 0 ByteArray.empty) (Field.mk 0 ByteArray.empty)) (Field.mk 0 ByteArray.empty) a0.Client a0.Session (Rect.mk 0 0 0 0))
    else
      if a0.Kind == 3 then
        some (Command.mk a0.Kind a0.ID a0.Which 0 (Point.mk 0 0) (A4.mk (Field.mk 0 ByteArray.empty) (Field.mk 0 ByteArray.empty) (Field.mk 0 ByteArray.empty) (Field.mk 0 ByteArray.empty)) a0.Value a0.Client a0.Session (Rect.mk 0 0 0 0))
      else
        if a0.Kind == 4 then
          some (Command.mk a0.Kind a0.ID 0 0 (Point.mk 0 0) (A4.mk (Field.mk 0 ByteArray.empty) (Field.mk 0 ByteArray.empty) (Field.mk 0 ByteArray.empty) (Field.mk 0 ByteArray.empty)) (Field.mk 0 ByteArray.empty) a0.Client a0.Session (Rect.mk 0 0 0 0))
        else
          if a0.Kind == 5 then
            some (Command.mk a0.Kind 0 a0.Which a0.To (Point.mk 0 0) (A4.mk (Field.mk 0 ByteArray.empty) (Field.mk 0 ByteArray.empty) (Field.mk 0 ByteArray.empty) (Field.mk 0 ByteArray.empty)) (Field.mk 0 ByteArray.empty) a0.Client a0.Session (Rect.mk 0 0 0 0))
          else
            if a0.Kind == 6 then
              if a0.Kind == 6 then
                some (Command.mk a0.Kind 0 0 0 (Point.mk 0 0) (A4.mk (Field.mk 0 ByteArray.empty) (Field.mk 0 ByteArray.empty) (Field.mk 0 ByteArray.empty) (Field.mk 0 ByteArray.empty)) (Field.mk 0 ByteArray.empty) a0.Client a0.Session a0.Rect)
              else
                some (Command.mk a0.Kind 0 0 0 (Point.mk 0 0) (A4.mk (Field.mk 0 ByteArray.empty) (Field.mk 0 ByteArray.empty) (Field.mk 0 ByteArray.empty) (Field.mk 0 ByteArray.empty)) (Field.mk 0 ByteArray.empty) a0.Client a0.Session (Rect.mk 0 0 0 0))
            else
              if a0.Kind == 7 then
                some (Command.mk a0.Kind 0 0 0 (Point.mk 0 0) (A4.mk (Field.mk 0 ByteArray.empty) (Field.mk 0 ByteArray.empty) (Field.mk 0 ByteArray.empty) (Field.mk 0 ByteArray.empty)) (Field.mk 0 ByteArray.empty) a0.Client a0.Session a0.Rect)
              else
                some (Command.mk a0.Kind 0 0 0 (Point.mk 0 0) (A4.mk (Field.mk 0 ByteArray.empty) (Field.mk 0 ByteArray.empty) (Field.mk 0 ByteArray.empty) (Field.mk 0 ByteArray.empty)) (Field.mk 0 ByteArray.empty) a0.Client a0.Session (Rect.mk 0 0 0 0))
theorem F58_ok (n : Nat) (a0 : Command) : ∀ r, F58 n a0 = some r → D 58 [.agg (Command.cells a0)] [] = some (F58_e r) := by
  refine fn_to (D := D) (n := n + 8) (nt := 60) (rs := pc58_r) (c := pc58_c40) (L := [(0, .agg (Command.cells a0))]) (M := []) (k := 0) rfl rfl rfl rfl rfl rfl rfl ?_
  unfold F58
  refine Sim.seq ?_
  refine Sim.region0 ?_
  refine SimI.run 2 [(2, .one (.ptr 2 0)), (1, .one (.ptr 1 0))] [(2, some (.cells [li .i64 0, li .i64 0, li .i64 0, li .i64 0, li .i64 0, li .i64 0, li .i64 0, ls ByteArray.empty, li .i64 0, ls ByteArray.empty, li .i64 0, ls ByteArray.empty, li .i64 0, ls ByteArray.empty, li .i64 0, ls ByteArray.empty, li .i64 0, li .i64 0, li .i64 0, li .i64 0, li .i64 0, li .i64 0])), (1, some (.cells (Command.cells a0)))] (by kernel_rfl) ?_
  refine SimI.done (by kernel_rfl) ?_
  refine SimE.thenN ?_
  refine Sim.seq ?_
  refine Sim.region0 ?_
  refine SimI.run 9 [(3, .one (.ptr 3 0)), (10, .agg [li .i64 a0.Kind, li .i64 0, li .i64 0, li .i64 0, li .i64 0, li .i64 0, li .i64 0, ls ByteArray.empty, li .i64 0, ls ByteArray.empty, li .i64 0, ls ByteArray.empty, li .i64 0, ls ByteArray.empty, li .i64 0, ls ByteArray.empty, li .i64 a0.Client, li .i64 a0.Session, li .i64 0, li .i64 0, li .i64 0, li .i64 0]), (9, .one (li .i64 a0.Session)), (8, .one (.ptr 1 17)), (7, .one (li .i64 a0.Client)), (6, .one (.ptr 1 16)), (5, .one (li .i64 a0.Kind)), (4, .one (.ptr 1 0))] [(3, some (.cells [li .i64 a0.Kind, li .i64 0, li .i64 0, li .i64 0, li .i64 0, li .i64 0, li .i64 0, ls ByteArray.empty, li .i64 0, ls ByteArray.empty, li .i64 0, ls ByteArray.empty, li .i64 0, ls ByteArray.empty, li .i64 0, ls ByteArray.empty, li .i64 a0.Client, li .i64 a0.Session, li .i64 0, li .i64 0, li .i64 0, li .i64 0])), (3, some (.cells [li .i64 0, li .i64 0, li .i64 0, li .i64 0, li .i64 0, li .i64 0, li .i64 0, ls ByteArray.empty, li .i64 0, ls ByteArray.empty, li .i64 0, ls ByteArray.empty, li .i64 0, ls ByteArray.empty, li .i64 0, ls ByteArray.empty, li .i64 0, li .i64 0, li .i64 0, li .i64 0, li .i64 0, li .i64 0]))] (by kernel_rfl) ?_
  refine SimI.done (by kernel_rfl) ?_
  refine SimE.thenN ?_
  refine Sim.seq ?_
  refine Sim.seq ?_
  refine Sim.region0 ?_
  refine SimI.run 2 [(12, .one (li .i64 a0.Kind)), (11, .one (.ptr 1 0))] [] (by kernel_rfl) ?_
  refine SimI.done (by kernel_rfl) ?_
  refine SimE.thenN ?_
  refine Sim.block ?_
  refine Sim.seq ?_
  refine Sim.region0 ?_
  refine SimI.run 2 [(13, .one (lb (a0.Kind == 1))), (14, .one (lb (a0.Kind == 1)))] [] (by kernel_rfl) ?_
  refine SimI.done (by kernel_rfl) ?_
  refine SimE.thenN ?_
  refine Sim.cond (a0.Kind == 1) (by kernel_rfl) ?_ ?_
  · refine Sim.region0 ?_
    refine SimI.run 8 [(20, .one (.ptr 3 6)), (19, .one (.ptr 3 4)), (18, .agg (A4_Field.cells a0.F)), (17, .one (.ptr 1 6)), (16, .agg [li .i64 a0.At.X, li .i64 a0.At.Y]), (15, .one (.ptr 1 4))] [(3, some (.cells [li .i64 a0.Kind, li .i64 0, li .i64 0, li .i64 0, li .i64 a0.At.X, li .i64 a0.At.Y, li .i64 a0.F.a0.N, ls a0.F.a0.Text, li .i64 a0.F.a1.N, ls a0.F.a1.Text, li .i64 a0.F.a2.N, ls a0.F.a2.Text, li .i64 a0.F.a3.N, ls a0.F.a3.Text, li .i64 0, ls ByteArray.empty, li .i64 a0.Client, li .i64 a0.Session, li .i64 0, li .i64 0, li .i64 0, li .i64 0])), (3, some (.cells [li .i64 a0.Kind, li .i64 0, li .i64 0, li .i64 0, li .i64 a0.At.X, li .i64 a0.At.Y, li .i64 0, ls ByteArray.empty, li .i64 0, ls ByteArray.empty, li .i64 0, ls ByteArray.empty, li .i64 0, ls ByteArray.empty, li .i64 0, ls ByteArray.empty, li .i64 a0.Client, li .i64 a0.Session, li .i64 0, li .i64 0, li .i64 0, li .i64 0]))] (by kernel_rfl) ?_
    refine SimI.done (by kernel_rfl) ?_
    refine SimE.blockN ?_
    refine SimE.thenN ?_
    refine Sim.seq ?_
    refine Sim.region0 ?_
    refine SimI.run 2 [(59, .agg [li .i64 a0.Kind, li .i64 0, li .i64 0, li .i64 0, li .i64 a0.At.X, li .i64 a0.At.Y, li .i64 a0.F.a0.N, ls a0.F.a0.Text, li .i64 a0.F.a1.N, ls a0.F.a1.Text, li .i64 a0.F.a2.N, ls a0.F.a2.Text, li .i64 a0.F.a3.N, ls a0.F.a3.Text, li .i64 0, ls ByteArray.empty, li .i64 a0.Client, li .i64 a0.Session, li .i64 0, li .i64 0, li .i64 0, li .i64 0])] [(2, some (.cells [li .i64 a0.Kind, li .i64 0, li .i64 0, li .i64 0, li .i64 a0.At.X, li .i64 a0.At.Y, li .i64 a0.F.a0.N, ls a0.F.a0.Text, li .i64 a0.F.a1.N, ls a0.F.a1.Text, li .i64 a0.F.a2.N, ls a0.F.a2.Text, li .i64 a0.F.a3.N, ls a0.F.a3.Text, li .i64 0, ls ByteArray.empty, li .i64 a0.Client, li .i64 a0.Session, li .i64 0, li .i64 0, li .i64 0, li .i64 0]))] (by kernel_rfl) ?_
    refine SimI.done (by kernel_rfl) ?_
    refine SimE.thenN ?_
    refine Sim.ret ?_
    exact SimE.fin (by kernel_rfl)
  · refine Sim.seq ?_
    refine Sim.region0 ?_
    refine SimI.run 2 [(21, .one (lb (a0.Kind == 2))), (22, .one (lb (a0.Kind == 2)))] [] (by kernel_rfl) ?_
    refine SimI.done (by kernel_rfl) ?_
    refine SimE.thenN ?_
    refine Sim.cond (a0.Kind == 2) (by kernel_rfl) ?_ ?_
    · refine Sim.region0 ?_
      refine SimI.run 8 [(28, .one (.ptr 3 4)), (27, .one (.ptr 3 1)), (26, .agg [li .i64 a0.At.X, li .i64 a0.At.Y]), (25, .one (.ptr 1 4)), (24, .one (li .i64 a0.ID)), (23, .one (.ptr 1 1))] [(3, some (.cells [li .i64 a0.Kind, li .i64 a0.ID, li .i64 0, li .i64 0, li .i64 a0.At.X, li .i64 a0.At.Y, li .i64 0, ls ByteArray.empty, li .i64 0, ls ByteArray.empty, li .i64 0, ls ByteArray.empty, li .i64 0, ls ByteArray.empty, li .i64 0, ls ByteArray.empty, li .i64 a0.Client, li .i64 a0.Session, li .i64 0, li .i64 0, li .i64 0, li .i64 0])), (3, some (.cells [li .i64 a0.Kind, li .i64 a0.ID, li .i64 0, li .i64 0, li .i64 0, li .i64 0, li .i64 0, ls ByteArray.empty, li .i64 0, ls ByteArray.empty, li .i64 0, ls ByteArray.empty, li .i64 0, ls ByteArray.empty, li .i64 0, ls ByteArray.empty, li .i64 a0.Client, li .i64 a0.Session, li .i64 0, li .i64 0, li .i64 0, li .i64 0]))] (by kernel_rfl) ?_
      refine SimI.done (by kernel_rfl) ?_
      refine SimE.blockN ?_
      refine SimE.thenN ?_
      refine Sim.seq ?_
      refine Sim.region0 ?_
      refine SimI.run 2 [(59, .agg [li .i64 a0.Kind, li .i64 a0.ID, li .i64 0, li .i64 0, li .i64 a0.At.X, li .i64 a0.At.Y, li .i64 0, ls ByteArray.empty, li .i64 0, ls ByteArray.empty, li .i64 0, ls ByteArray.empty, li .i64 0, ls ByteArray.empty, li .i64 0, ls ByteArray.empty, li .i64 a0.Client, li .i64 a0.Session, li .i64 0, li .i64 0, li .i64 0, li .i64 0])] [(2, some (.cells [li .i64 a0.Kind, li .i64 a0.ID, li .i64 0, li .i64 0, li .i64 a0.At.X, li .i64 a0.At.Y, li .i64 0, ls ByteArray.empty, li .i64 0, ls ByteArray.empty, li .i64 0, ls ByteArray.empty, li .i64 0, ls ByteArray.empty, li .i64 0, ls ByteArray.empty, li .i64 a0.Client, li .i64 a0.Session, li .i64 0, li .i64 0, li .i64 0, li .i64 0]))] (by kernel_rfl) ?_
      refine SimI.done (by kernel_rfl) ?_
      refine SimE.thenN ?_
      refine Sim.ret ?_
      exact SimE.fin (by kernel_rfl)
    · refine Sim.seq ?_
      refine Sim.region0 ?_
      refine SimI.run 2 [(29, .one (lb (a0.Kind == 3))), (30, .one (lb (a0.Kind == 3)))] [] (by kernel_rfl) ?_
      refine SimI.done (by kernel_rfl) ?_
      refine SimE.thenN ?_
      refine Sim.cond (a0.Kind == 3) (by kernel_rfl) ?_ ?_
      · refine Sim.region0 ?_
        refine SimI.run 12 [(39, .one (.ptr 3 14)), (38, .one (.ptr 3 2)), (37, .one (.ptr 3 1)), (36, .agg [li .i64 a0.Value.N, ls a0.Value.Text]), (35, .one (.ptr 1 14)), (34, .one (li .i64 a0.Which)), (33, .one (.ptr 1 2)), (32, .one (li .i64 a0.ID)), (31, .one (.ptr 1 1))] [(3, some (.cells [li .i64 a0.Kind, li .i64 a0.ID, li .i64 a0.Which, li .i64 0, li .i64 0, li .i64 0, li .i64 0, ls ByteArray.empty, li .i64 0, ls ByteArray.empty, li .i64 0, ls ByteArray.empty, li .i64 0, ls ByteArray.empty, li .i64 a0.Value.N, ls a0.Value.Text, li .i64 a0.Client, li .i64 a0.Session, li .i64 0, li .i64 0, li .i64 0, li .i64 0])), (3, some (.cells [li .i64 a0.Kind, li .i64 a0.ID, li .i64 a0.Which, li .i64 0, li .i64 0, li .i64 0, li .i64 0, ls ByteArray.empty, li .i64 0, ls ByteArray.empty, li .i64 0, ls ByteArray.empty, li .i64 0, ls ByteArray.empty, li .i64 0, ls ByteArray.empty, li .i64 a0.Client, li .i64 a0.Session, li .i64 0, li .i64 0, li .i64 0, li .i64 0])), (3, some (.cells [li .i64 a0.Kind, li .i64 a0.ID, li .i64 0, li .i64 0, li .i64 0, li .i64 0, li .i64 0, ls ByteArray.empty, li .i64 0, ls ByteArray.empty, li .i64 0, ls ByteArray.empty, li .i64 0, ls ByteArray.empty, li .i64 0, ls ByteArray.empty, li .i64 a0.Client, li .i64 a0.Session, li .i64 0, li .i64 0, li .i64 0, li .i64 0]))] (by kernel_rfl) ?_
        refine SimI.done (by kernel_rfl) ?_
        refine SimE.blockN ?_
        refine SimE.thenN ?_
        refine Sim.seq ?_
        refine Sim.region0 ?_
        refine SimI.run 2 [(59, .agg [li .i64 a0.Kind, li .i64 a0.ID, li .i64 a0.Which, li .i64 0, li .i64 0, li .i64 0, li .i64 0, ls ByteArray.empty, li .i64 0, ls ByteArray.empty, li .i64 0, ls ByteArray.empty, li .i64 0, ls ByteArray.empty, li .i64 a0.Value.N, ls a0.Value.Text, li .i64 a0.Client, li .i64 a0.Session, li .i64 0, li .i64 0, li .i64 0, li .i64 0])] [(2, some (.cells [li .i64 a0.Kind, li .i64 a0.ID, li .i64 a0.Which, li .i64 0, li .i64 0, li .i64 0, li .i64 0, ls ByteArray.empty, li .i64 0, ls ByteArray.empty, li .i64 0, ls ByteArray.empty, li .i64 0, ls ByteArray.empty, li .i64 a0.Value.N, ls a0.Value.Text, li .i64 a0.Client, li .i64 a0.Session, li .i64 0, li .i64 0, li .i64 0, li .i64 0]))] (by kernel_rfl) ?_
        refine SimI.done (by kernel_rfl) ?_
        refine SimE.thenN ?_
        refine Sim.ret ?_
        exact SimE.fin (by kernel_rfl)
      · refine Sim.seq ?_
        refine Sim.region0 ?_
        refine SimI.run 2 [(40, .one (lb (a0.Kind == 4))), (41, .one (lb (a0.Kind == 4)))] [] (by kernel_rfl) ?_
        refine SimI.done (by kernel_rfl) ?_
        refine SimE.thenN ?_
        refine Sim.cond (a0.Kind == 4) (by kernel_rfl) ?_ ?_
        · refine Sim.region0 ?_
          refine SimI.run 4 [(44, .one (.ptr 3 1)), (43, .one (li .i64 a0.ID)), (42, .one (.ptr 1 1))] [(3, some (.cells [li .i64 a0.Kind, li .i64 a0.ID, li .i64 0, li .i64 0, li .i64 0, li .i64 0, li .i64 0, ls ByteArray.empty, li .i64 0, ls ByteArray.empty, li .i64 0, ls ByteArray.empty, li .i64 0, ls ByteArray.empty, li .i64 0, ls ByteArray.empty, li .i64 a0.Client, li .i64 a0.Session, li .i64 0, li .i64 0, li .i64 0, li .i64 0]))] (by kernel_rfl) ?_
          refine SimI.done (by kernel_rfl) ?_
          refine SimE.blockN ?_
          refine SimE.thenN ?_
          refine Sim.seq ?_
          refine Sim.region0 ?_
          refine SimI.run 2 [(59, .agg [li .i64 a0.Kind, li .i64 a0.ID, li .i64 0, li .i64 0, li .i64 0, li .i64 0, li .i64 0, ls ByteArray.empty, li .i64 0, ls ByteArray.empty, li .i64 0, ls ByteArray.empty, li .i64 0, ls ByteArray.empty, li .i64 0, ls ByteArray.empty, li .i64 a0.Client, li .i64 a0.Session, li .i64 0, li .i64 0, li .i64 0, li .i64 0])] [(2, some (.cells [li .i64 a0.Kind, li .i64 a0.ID, li .i64 0, li .i64 0, li .i64 0, li .i64 0, li .i64 0, ls ByteArray.empty, li .i64 0, ls ByteArray.empty, li .i64 0, ls ByteArray.empty, li .i64 0, ls ByteArray.empty, li .i64 0, ls ByteArray.empty, li .i64 a0.Client, li .i64 a0.Session, li .i64 0, li .i64 0, li .i64 0, li .i64 0]))] (by kernel_rfl) ?_
          refine SimI.done (by kernel_rfl) ?_
          refine SimE.thenN ?_
          refine Sim.ret ?_
          exact SimE.fin (by kernel_rfl)
        · refine Sim.seq ?_
          refine Sim.region0 ?_
          refine SimI.run 2 [(45, .one (lb (a0.Kind == 5))), (46, .one (lb (a0.Kind == 5)))] [] (by kernel_rfl) ?_
          refine SimI.done (by kernel_rfl) ?_
          refine SimE.thenN ?_
          refine Sim.cond (a0.Kind == 5) (by kernel_rfl) ?_ ?_
          · refine Sim.region0 ?_
            refine SimI.run 8 [(52, .one (.ptr 3 3)), (51, .one (.ptr 3 2)), (50, .one (li .i64 a0.To)), (49, .one (.ptr 1 3)), (48, .one (li .i64 a0.Which)), (47, .one (.ptr 1 2))] [(3, some (.cells [li .i64 a0.Kind, li .i64 0, li .i64 a0.Which, li .i64 a0.To, li .i64 0, li .i64 0, li .i64 0, ls ByteArray.empty, li .i64 0, ls ByteArray.empty, li .i64 0, ls ByteArray.empty, li .i64 0, ls ByteArray.empty, li .i64 0, ls ByteArray.empty, li .i64 a0.Client, li .i64 a0.Session, li .i64 0, li .i64 0, li .i64 0, li .i64 0])), (3, some (.cells [li .i64 a0.Kind, li .i64 0, li .i64 a0.Which, li .i64 0, li .i64 0, li .i64 0, li .i64 0, ls ByteArray.empty, li .i64 0, ls ByteArray.empty, li .i64 0, ls ByteArray.empty, li .i64 0, ls ByteArray.empty, li .i64 0, ls ByteArray.empty, li .i64 a0.Client, li .i64 a0.Session, li .i64 0, li .i64 0, li .i64 0, li .i64 0]))] (by kernel_rfl) ?_
            refine SimI.done (by kernel_rfl) ?_
            refine SimE.blockN ?_
            refine SimE.thenN ?_
            refine Sim.seq ?_
            refine Sim.region0 ?_
            refine SimI.run 2 [(59, .agg [li .i64 a0.Kind, li .i64 0, li .i64 a0.Which, li .i64 a0.To, li .i64 0, li .i64 0, li .i64 0, ls ByteArray.empty, li .i64 0, ls ByteArray.empty, li .i64 0, ls ByteArray.empty, li .i64 0, ls ByteArray.empty, li .i64 0, ls ByteArray.empty, li .i64 a0.Client, li .i64 a0.Session, li .i64 0, li .i64 0, li .i64 0, li .i64 0])] [(2, some (.cells [li .i64 a0.Kind, li .i64 0, li .i64 a0.Which, li .i64 a0.To, li .i64 0, li .i64 0, li .i64 0, ls ByteArray.empty, li .i64 0, ls ByteArray.empty, li .i64 0, ls ByteArray.empty, li .i64 0, ls ByteArray.empty, li .i64 0, ls ByteArray.empty, li .i64 a0.Client, li .i64 a0.Session, li .i64 0, li .i64 0, li .i64 0, li .i64 0]))] (by kernel_rfl) ?_
            refine SimI.done (by kernel_rfl) ?_
            refine SimE.thenN ?_
            refine Sim.ret ?_
            exact SimE.fin (by kernel_rfl)
          · refine Sim.seq ?_
            refine Sim.seq ?_
            refine Sim.region0 ?_
            refine SimI.run 2 [(53, .one (lb (a0.Kind == 6))), (54, .one (lb (a0.Kind == 6)))] [] (by kernel_rfl) ?_
            refine SimI.done (by kernel_rfl) ?_
            refine SimE.thenN ?_
            refine Sim.cond (a0.Kind == 6) (by kernel_rfl) ?_ ?_
            · refine Sim.skip ?_
              refine SimE.thenN ?_
              refine Sim.cond (a0.Kind == 6) (by kernel_rfl) ?_ ?_
              · refine Sim.region0 ?_
                refine SimI.run 4 [(58, .one (.ptr 3 18)), (57, .agg (Rect.cells a0.Rect)), (56, .one (.ptr 1 18))] [(3, some (.cells [li .i64 a0.Kind, li .i64 0, li .i64 0, li .i64 0, li .i64 0, li .i64 0, li .i64 0, ls ByteArray.empty, li .i64 0, ls ByteArray.empty, li .i64 0, ls ByteArray.empty, li .i64 0, ls ByteArray.empty, li .i64 0, ls ByteArray.empty, li .i64 a0.Client, li .i64 a0.Session, li .i64 a0.Rect.X0, li .i64 a0.Rect.Y0, li .i64 a0.Rect.X1, li .i64 a0.Rect.Y1]))] (by kernel_rfl) ?_
                refine SimI.done (by kernel_rfl) ?_
                refine SimE.blockN ?_
                refine SimE.thenN ?_
                refine Sim.seq ?_
                refine Sim.region0 ?_
                refine SimI.run 2 [(59, .agg [li .i64 a0.Kind, li .i64 0, li .i64 0, li .i64 0, li .i64 0, li .i64 0, li .i64 0, ls ByteArray.empty, li .i64 0, ls ByteArray.empty, li .i64 0, ls ByteArray.empty, li .i64 0, ls ByteArray.empty, li .i64 0, ls ByteArray.empty, li .i64 a0.Client, li .i64 a0.Session, li .i64 a0.Rect.X0, li .i64 a0.Rect.Y0, li .i64 a0.Rect.X1, li .i64 a0.Rect.Y1])] [(2, some (.cells [li .i64 a0.Kind, li .i64 0, li .i64 0, li .i64 0, li .i64 0, li .i64 0, li .i64 0, ls ByteArray.empty, li .i64 0, ls ByteArray.empty, li .i64 0, ls ByteArray.empty, li .i64 0, ls ByteArray.empty, li .i64 0, ls ByteArray.empty, li .i64 a0.Client, li .i64 a0.Session, li .i64 a0.Rect.X0, li .i64 a0.Rect.Y0, li .i64 a0.Rect.X1, li .i64 a0.Rect.Y1]))] (by kernel_rfl) ?_
                refine SimI.done (by kernel_rfl) ?_
                refine SimE.thenN ?_
                refine Sim.ret ?_
                exact SimE.fin (by kernel_rfl)
              · refine Sim.skip ?_
                refine SimE.blockN ?_
                refine SimE.thenN ?_
                refine Sim.seq ?_
                refine Sim.region0 ?_
                refine SimI.run 2 [(59, .agg [li .i64 a0.Kind, li .i64 0, li .i64 0, li .i64 0, li .i64 0, li .i64 0, li .i64 0, ls ByteArray.empty, li .i64 0, ls ByteArray.empty, li .i64 0, ls ByteArray.empty, li .i64 0, ls ByteArray.empty, li .i64 0, ls ByteArray.empty, li .i64 a0.Client, li .i64 a0.Session, li .i64 0, li .i64 0, li .i64 0, li .i64 0])] [(2, some (.cells [li .i64 a0.Kind, li .i64 0, li .i64 0, li .i64 0, li .i64 0, li .i64 0, li .i64 0, ls ByteArray.empty, li .i64 0, ls ByteArray.empty, li .i64 0, ls ByteArray.empty, li .i64 0, ls ByteArray.empty, li .i64 0, ls ByteArray.empty, li .i64 a0.Client, li .i64 a0.Session, li .i64 0, li .i64 0, li .i64 0, li .i64 0]))] (by kernel_rfl) ?_
                refine SimI.done (by kernel_rfl) ?_
                refine SimE.thenN ?_
                refine Sim.ret ?_
                exact SimE.fin (by kernel_rfl)
            · refine Sim.region0 ?_
              refine SimI.run 2 [(53, .one (lb (a0.Kind == 7))), (55, .one (lb (a0.Kind == 7)))] [] (by kernel_rfl) ?_
              refine SimI.done (by kernel_rfl) ?_
              refine SimE.thenN ?_
              refine Sim.cond (a0.Kind == 7) (by kernel_rfl) ?_ ?_
              · refine Sim.region0 ?_
                refine SimI.run 4 [(58, .one (.ptr 3 18)), (57, .agg (Rect.cells a0.Rect)), (56, .one (.ptr 1 18))] [(3, some (.cells [li .i64 a0.Kind, li .i64 0, li .i64 0, li .i64 0, li .i64 0, li .i64 0, li .i64 0, ls ByteArray.empty, li .i64 0, ls ByteArray.empty, li .i64 0, ls ByteArray.empty, li .i64 0, ls ByteArray.empty, li .i64 0, ls ByteArray.empty, li .i64 a0.Client, li .i64 a0.Session, li .i64 a0.Rect.X0, li .i64 a0.Rect.Y0, li .i64 a0.Rect.X1, li .i64 a0.Rect.Y1]))] (by kernel_rfl) ?_
                refine SimI.done (by kernel_rfl) ?_
                refine SimE.blockN ?_
                refine SimE.thenN ?_
                refine Sim.seq ?_
                refine Sim.region0 ?_
                refine SimI.run 2 [(59, .agg [li .i64 a0.Kind, li .i64 0, li .i64 0, li .i64 0, li .i64 0, li .i64 0, li .i64 0, ls ByteArray.empty, li .i64 0, ls ByteArray.empty, li .i64 0, ls ByteArray.empty, li .i64 0, ls ByteArray.empty, li .i64 0, ls ByteArray.empty, li .i64 a0.Client, li .i64 a0.Session, li .i64 a0.Rect.X0, li .i64 a0.Rect.Y0, li .i64 a0.Rect.X1, li .i64 a0.Rect.Y1])] [(2, some (.cells [li .i64 a0.Kind, li .i64 0, li .i64 0, li .i64 0, li .i64 0, li .i64 0, li .i64 0, ls ByteArray.empty, li .i64 0, ls ByteArray.empty, li .i64 0, ls ByteArray.empty, li .i64 0, ls ByteArray.empty, li .i64 0, ls ByteArray.empty, li .i64 a0.Client, li .i64 a0.Session, li .i64 a0.Rect.X0, li .i64 a0.Rect.Y0, li .i64 a0.Rect.X1, li .i64 a0.Rect.Y1]))] (by kernel_rfl) ?_
                refine SimI.done (by kernel_rfl) ?_
                refine SimE.thenN ?_
                refine Sim.ret ?_
                exact SimE.fin (by kernel_rfl)
              · refine Sim.skip ?_
                refine SimE.blockN ?_
                refine SimE.thenN ?_
                refine Sim.seq ?_
                refine Sim.region0 ?_
                refine SimI.run 2 [(59, .agg [li .i64 a0.Kind, li .i64 0, li .i64 0, li .i64 0, li .i64 0, li .i64 0, li .i64 0, ls ByteArray.empty, li .i64 0, ls ByteArray.empty, li .i64 0, ls ByteArray.empty, li .i64 0, ls ByteArray.empty, li .i64 0, ls ByteArray.empty, li .i64 a0.Client, li .i64 a0.Session, li .i64 0, li .i64 0, li .i64 0, li .i64 0])] [(2, some (.cells [li .i64 a0.Kind, li .i64 0, li .i64 0, li .i64 0, li .i64 0, li .i64 0, li .i64 0, ls ByteArray.empty, li .i64 0, ls ByteArray.empty, li .i64 0, ls ByteArray.empty, li .i64 0, ls ByteArray.empty, li .i64 0, ls ByteArray.empty, li .i64 a0.Client, li .i64 a0.Session, li .i64 0, li .i64 0, li .i64 0, li .i64 0]))] (by kernel_rfl) ?_
                refine SimI.done (by kernel_rfl) ?_
                refine SimE.thenN ?_
                refine Sim.ret ?_
                exact SimE.fin (by kernel_rfl)


-- 59: vedette/cmd.near
def F59_e : Bool → PV × List Ob := fun r => (.one (lb r), [])
def F59_l4 (n : Nat) (a0 : (List Int)) : Nat → Int → Option Bool
  | 0, _ => none
  | m + 1, i3 =>
    if decide (i3 < ((a0).length : Int)) then
      (ix a0 i3).bind fun (x5 : Int) =>
      if decide (((-1000) : Int) ≤ x5) then
        if decide (x5 ≤ 1000) then
          (F59_l4 n a0 m) (IntKind.wrap .i64 (i3 + 1))
        else
          some false
      else
        some false
    else
      some true
theorem F59_l4_ok (n : Nat) (a0 : (List Int)) : ∀ (m : Nat) (i3 : Int), SimL Try.prog D (n + 8) m pc59_c23 [(5, .one (vw (codI .i64) a0)), (6, .one (li .i64 ((a0).length : Int))), (7, .one (li .i64 i3))] [] (F59_l4 n a0 m i3) (QB 0 (QT Try.prog D (n + 8) pc59_c29 (QF false pc59_r 0 F59_e))) := by
  intro m_l4
  induction m_l4 with
  | zero => intro i3; exact SimL.zero'  rfl
  | succ m_l4 ih_l4 =>
    intro i3
    refine SimL.succ ?_
    unfold F59_l4
    refine Sim.seq ?_
    refine Sim.region [(5, .one (vw (codI .i64) a0)), (6, .one (li .i64 ((a0).length : Int))), (7, .one (li .i64 i3))] [] (by kernel_rfl) ?_
    refine SimI.run 1 [(8, .one (lb (decide (i3 < ((a0).length : Int)))))] [] (by kernel_rfl) ?_
    refine SimI.done (by kernel_rfl) ?_
    refine SimE.thenN ?_
    refine Sim.seq ?_
    refine Sim.cond (decide (i3 < ((a0).length : Int))) (by kernel_rfl) ?_ ?_
    · refine Sim.skip ?_
      refine SimE.thenN ?_
      refine Sim.seq ?_
      refine Sim.block ?_
      refine Sim.seq ?_
      refine Sim.region0 ?_
      refine SimI.bind (og := ix a0 i3) { dst := some 9, op := POp.iaddrS 1 (Operand.tmp 5) (Operand.tmp 7), guard := none, hints := [] } (fun x5 => [(9, .one (.eptr ((codI .i64).enc x5) 0))]) (fun x5 => []) (by kernel_rfl) (fun x5 hr => pOp_eff (by kernel_rfl) (by kernel_rfl) (eff_idx (c := (codI .i64)) (l := a0) (k := .i64) (n := i3) (by kernel_rfl) (by kernel_rfl) (by kernel_rfl) hr)) (fun x5 => ?_)
      refine SimI.run 2 [(4, .one (li .i64 x5)), (10, .one (li .i64 x5))] [] (by kernel_rfl) ?_
      refine SimI.done (by kernel_rfl) ?_
      refine SimE.thenN ?_
      refine Sim.seq ?_
      refine Sim.seq ?_
      refine Sim.region0 ?_
      refine SimI.run 3 [(13, .one (lb (decide (((-1000) : Int) ≤ x5)))), (12, .one (lb (decide (((-1000) : Int) ≤ x5)))), (11, .one (li .i64 x5))] [] (by kernel_rfl) ?_
      refine SimI.split 13 (decide (((-1000) : Int) ≤ x5)) (by kernel_rfl) ?_ ?_
      · refine SimI.run 3 [(16, .one (lb (decide (x5 ≤ 1000)))), (15, .one (lb (decide (x5 ≤ 1000)))), (14, .one (li .i64 x5))] [] (by kernel_rfl) ?_
        refine SimI.done (by kernel_rfl) ?_
        refine SimE.thenN ?_
        refine Sim.cond (decide (x5 ≤ 1000)) (by kernel_rfl) ?_ ?_
        · refine Sim.exit ?_
          refine SimE.thenX ?_
          refine SimE.blockX ?_
          refine SimE.thenN ?_
          refine Sim.region0 ?_
          refine SimI.run 2 [(7, .one (li .i64 (IntKind.wrap .i64 (i3 + 1)))), (17, .one (li .i64 (IntKind.wrap .i64 (i3 + 1))))] [] (by kernel_rfl) ?_
          refine SimI.done (by kernel_rfl) ?_
          refine SimE.loopN ?_
          refine SimL.pre (ts := [5, 6, 7]) (os := []) (ow := []) [(5, .one (vw (codI .i64) a0)), (6, .one (li .i64 ((a0).length : Int))), (7, .one (li .i64 (IntKind.wrap .i64 (i3 + 1))))] [] (by kernel_rfl) (by kernel_rfl) (by kernel_rfl) ?_
          exact ih_l4 (IntKind.wrap .i64 (i3 + 1))
        · refine Sim.skip ?_
          refine SimE.thenN ?_
          refine Sim.seq ?_
          refine Sim.region0 ?_
          refine SimI.run 1 [(2, .one (lb false))] [] (by kernel_rfl) ?_
          refine SimI.done (by kernel_rfl) ?_
          refine SimE.thenN ?_
          refine Sim.ret ?_
          refine SimE.blockR ?_
          refine SimE.thenR ?_
          refine SimE.loopR ?_
          refine SimE.blockR ?_
          refine SimE.thenR ?_
          exact SimE.fin (by kernel_rfl)
      · refine SimI.run 3 [(16, .one (lb false)), (15, .tup []), (14, .tup [])] [] (by kernel_rfl) ?_
        refine SimI.done (by kernel_rfl) ?_
        refine SimE.thenN ?_
        refine Sim.condF (by kernel_rfl) ?_
        refine Sim.skip ?_
        refine SimE.thenN ?_
        refine Sim.seq ?_
        refine Sim.region0 ?_
        refine SimI.run 1 [(2, .one (lb false))] [] (by kernel_rfl) ?_
        refine SimI.done (by kernel_rfl) ?_
        refine SimE.thenN ?_
        refine Sim.ret ?_
        refine SimE.blockR ?_
        refine SimE.thenR ?_
        refine SimE.loopR ?_
        refine SimE.blockR ?_
        refine SimE.thenR ?_
        exact SimE.fin (by kernel_rfl)
    · refine Sim.exit ?_
      refine SimE.thenX ?_
      refine SimE.loopX ?_
      refine SimE.blockX ?_
      refine SimE.thenN ?_
      refine Sim.seq ?_
      refine Sim.region0 ?_
      refine SimI.run 1 [(2, .one (lb true))] [] (by kernel_rfl) ?_
      refine SimI.done (by kernel_rfl) ?_
      refine SimE.thenN ?_
      refine Sim.ret ?_
      exact SimE.fin (by kernel_rfl)

def F59 (n : Nat) (a0 : (List Int)) : Option Bool :=
  F59_l4 n a0 (n + 8) 0
theorem F59_ok (n : Nat) (a0 : (List Int)) : ∀ r, F59 n a0 = some r → D 59 [.one (vw (codI .i64) a0)] [] = some (F59_e r) := by
  refine fn_to (D := D) (n := n + 8) (nt := 18) (rs := pc59_r) (c := pc59_c33) (L := [(0, .one (vw (codI .i64) a0))]) (M := []) (k := 0) rfl rfl rfl rfl rfl rfl rfl ?_
  unfold F59
  refine Sim.seq ?_
  refine Sim.region0 ?_
  refine SimI.run 1 [(2, .one (lb false))] [] (by kernel_rfl) ?_
  refine SimI.done (by kernel_rfl) ?_
  refine SimE.thenN ?_
  refine Sim.scope ?_
  refine Sim.seq ?_
  refine Sim.label ?_
  refine SimE.thenN ?_
  refine Sim.seq ?_
  refine Sim.seq ?_
  refine Sim.region0 ?_
  refine SimI.run 3 [(7, .one (li .i64 0)), (6, .one (li .i64 ((a0).length : Int))), (5, .one (vw (codI .i64) a0))] [] (by kernel_rfl) ?_
  refine SimI.done (by kernel_rfl) ?_
  refine SimE.thenN ?_
  refine Sim.block ?_
  refine Sim.loop ?_
  refine SimL.pre (ts := [5, 6, 7]) (os := []) (ow := []) [(5, .one (vw (codI .i64) a0)), (6, .one (li .i64 ((a0).length : Int))), (7, .one (li .i64 0))] [] (by kernel_rfl) (by kernel_rfl) (by kernel_rfl) ?_
  exact F59_l4_ok n a0 (n + 8) 0


-- 35: vedette/cmd.Is
def F35_e : Bool → PV × List Ob := fun r => (.one (lb r), [])
def F35_j12 (n : Nat) (a0 : Command) (b6 : Bool) (b8 : Bool) (b11 : Bool) : Option Bool :=
    if b6 then
      if b8 then
        if b11 then
          (F59 n [a0.At.X, a0.At.Y, a0.Rect.X0, a0.Rect.Y0, a0.Rect.X1, a0.Rect.Y1]).bind fun (r13 : Bool) =>
          some r13
        else
          some false
      else
        some false
    else
      some false
theorem F35_j12_ok (n : Nat) (a0 : Command) (b6 : Bool) (b8 : Bool) (b11 : Bool) : Sim Try.prog D (n + 8) pc35_c29 [(1, .one (.ptr 1 0)), (5, .one (lb b6)), (6, .one (lb b8)), (7, .one (lb b11))] [(1, some (.cells (Command.cells a0)))] (F35_j12 n a0 b6 b8 b11) (QF false pc35_r 0 F35_e) := by
    unfold F35_j12
    refine Sim.seq ?_
    refine Sim.region [(1, .one (.ptr 1 0)), (5, .one (lb b6)), (6, .one (lb b8)), (7, .one (lb b11))] [(1, some (.cells (Command.cells a0)))] (by kernel_rfl) ?_
    refine SimI.run 2 [(83, .one (lb b6)), (82, .one (lb b6))] [] (by kernel_rfl) ?_
    refine SimI.split 83 b6 (by kernel_rfl) ?_ ?_
    · refine SimI.run 3 [(86, .one (lb b8)), (85, .one (lb b8)), (84, .one (lb b8))] [] (by kernel_rfl) ?_
      refine SimI.split 86 b8 (by kernel_rfl) ?_ ?_
      · refine SimI.run 3 [(89, .one (lb b11)), (88, .one (lb b11)), (87, .one (lb b11))] [] (by kernel_rfl) ?_
        refine SimI.split 89 b11 (by kernel_rfl) ?_ ?_
        · refine SimI.run 19 [(108, .one (vw (codI .i64) [a0.At.X, a0.At.Y, a0.Rect.X0, a0.Rect.Y0, a0.Rect.X1, a0.Rect.Y1])), (107, .one (li .i64 a0.Rect.Y1)), (106, .one (.ptr 1 21)), (105, .one (.ptr 1 18)), (104, .one (li .i64 a0.Rect.X1)), (103, .one (.ptr 1 20)), (102, .one (.ptr 1 18)), (101, .one (li .i64 a0.Rect.Y0)), (100, .one (.ptr 1 19)), (99, .one (.ptr 1 18)), (98, .one (li .i64 a0.Rect.X0)), (97, .one (.ptr 1 18)), (96, .one (.ptr 1 18)), (95, .one (li .i64 a0.At.Y)), (94, .one (.ptr 1 5)), (93, .one (.ptr 1 4)), (92, .one (li .i64 a0.At.X)), (91, .one (.ptr 1 4)), (90, .one (.ptr 1 4))] [] (by kernel_rfl) ?_
          refine SimI.bind (og := F59 n [a0.At.X, a0.At.Y, a0.Rect.X0, a0.Rect.Y0, a0.Rect.X1, a0.Rect.Y1]) { dst := some 109, op := POp.call true [[(0, 1)]] 59 [Operand.tmp 108], guard := some (89, true), hints := [] } (fun r13 => [(109, .one (lb r13))]) (fun r13 => []) (by kernel_rfl) (fun r13 hr => pOp_eff (by kernel_rfl) (by kernel_rfl) (eff_call (ARGS := [.one (vw (codI .i64) [a0.At.X, a0.At.Y, a0.Rect.X0, a0.Rect.Y0, a0.Rect.X1, a0.Rect.Y1])]) (by kernel_rfl) (args_clean (by kernel_rfl) args_nil) (F59_ok n [a0.At.X, a0.At.Y, a0.Rect.X0, a0.Rect.Y0, a0.Rect.X1, a0.Rect.Y1] r13 hr) (by kernel_rfl))) (fun r13 => ?_)
          refine SimI.run 2 [(2, .one (lb r13)), (110, .one (lb r13))] [] (by kernel_rfl) ?_
          refine SimI.done (by kernel_rfl) ?_
          refine SimE.thenN ?_
          refine Sim.ret ?_
          exact SimE.fin (by kernel_rfl)
        · refine SimI.run 22 [(2, .one (lb false)), (110, .one (lb false)), (109, .tup []), (108, .tup []), (107, .tup []), (106, .tup []), (105, .tup []), (104, .tup []), (103, .tup []), (102, .tup []), (101, .tup []), (100, .tup []), (99, .tup []), (98, .tup []), (97, .tup []), (96, .tup []), (95, .tup []), (94, .tup []), (93, .tup []), (92, .tup []), (91, .tup []), (90, .tup [])] [] (by kernel_rfl) ?_
          refine SimI.done (by kernel_rfl) ?_
          refine SimE.thenN ?_
          refine Sim.ret ?_
          exact SimE.fin (by kernel_rfl)
      · refine SimI.run 25 [(2, .one (lb false)), (110, .one (lb false)), (109, .tup []), (108, .tup []), (107, .tup []), (106, .tup []), (105, .tup []), (104, .tup []), (103, .tup []), (102, .tup []), (101, .tup []), (100, .tup []), (99, .tup []), (98, .tup []), (97, .tup []), (96, .tup []), (95, .tup []), (94, .tup []), (93, .tup []), (92, .tup []), (91, .tup []), (90, .tup []), (89, .one (lb false)), (88, .one (lb false)), (87, .tup [])] [] (by kernel_rfl) ?_
        refine SimI.done (by kernel_rfl) ?_
        refine SimE.thenN ?_
        refine Sim.ret ?_
        exact SimE.fin (by kernel_rfl)
    · refine SimI.run 28 [(2, .one (lb false)), (110, .one (lb false)), (109, .tup []), (108, .tup []), (107, .tup []), (106, .tup []), (105, .tup []), (104, .tup []), (103, .tup []), (102, .tup []), (101, .tup []), (100, .tup []), (99, .tup []), (98, .tup []), (97, .tup []), (96, .tup []), (95, .tup []), (94, .tup []), (93, .tup []), (92, .tup []), (91, .tup []), (90, .tup []), (89, .one (lb false)), (88, .one (lb false)), (87, .tup []), (86, .one (lb false)), (85, .one (lb false)), (84, .tup [])] [] (by kernel_rfl) ?_
      refine SimI.done (by kernel_rfl) ?_
      refine SimE.thenN ?_
      refine Sim.ret ?_
      exact SimE.fin (by kernel_rfl)

def F35_j9 (n : Nat) (a0 : Command) (b6 : Bool) (b8 : Bool) : Option Bool :=
    if decide ((0 : Int) ≤ a0.ID) then
      if decide (a0.ID ≤ 1000000) then
        if decide (((-1) : Int) ≤ a0.Which) then
          if decide (a0.Which ≤ 100) then
            if decide (((-1) : Int) ≤ a0.To) then
              if decide (a0.To ≤ 100) then
                (F26 n a0.Value).bind fun (r10 : Bool) =>
                F35_j12 n a0 b6 b8 r10
              else
                F35_j12 n a0 b6 b8 false
            else
              F35_j12 n a0 b6 b8 false
          else
            F35_j12 n a0 b6 b8 false
        else
          F35_j12 n a0 b6 b8 false
      else
        F35_j12 n a0 b6 b8 false
    else
      F35_j12 n a0 b6 b8 false
theorem F35_j9_ok (n : Nat) (a0 : Command) (b6 : Bool) (b8 : Bool) : Sim Try.prog D (n + 8) pc35_c30 [(1, .one (.ptr 1 0)), (5, .one (lb b6)), (6, .one (lb b8))] [(1, some (.cells (Command.cells a0)))] (F35_j9 n a0 b6 b8) (QF false pc35_r 0 F35_e) := by
    unfold F35_j9
    refine Sim.seq ?_
    refine Sim.region [(1, .one (.ptr 1 0)), (5, .one (lb b6)), (6, .one (lb b8))] [(1, some (.cells (Command.cells a0)))] (by kernel_rfl) ?_
    refine SimI.run 4 [(52, .one (lb (decide ((0 : Int) ≤ a0.ID)))), (51, .one (lb (decide ((0 : Int) ≤ a0.ID)))), (50, .one (li .i64 a0.ID)), (49, .one (.ptr 1 1))] [] (by kernel_rfl) ?_
    refine SimI.split 52 (decide ((0 : Int) ≤ a0.ID)) (by kernel_rfl) ?_ ?_
    · refine SimI.run 5 [(57, .one (lb (decide (a0.ID ≤ 1000000)))), (56, .one (lb (decide (a0.ID ≤ 1000000)))), (55, .one (lb (decide (a0.ID ≤ 1000000)))), (54, .one (li .i64 a0.ID)), (53, .one (.ptr 1 1))] [] (by kernel_rfl) ?_
      refine SimI.split 57 (decide (a0.ID ≤ 1000000)) (by kernel_rfl) ?_ ?_
      · refine SimI.run 5 [(62, .one (lb (decide (((-1) : Int) ≤ a0.Which)))), (61, .one (lb (decide (((-1) : Int) ≤ a0.Which)))), (60, .one (lb (decide (((-1) : Int) ≤ a0.Which)))), (59, .one (li .i64 a0.Which)), (58, .one (.ptr 1 2))] [] (by kernel_rfl) ?_
        refine SimI.split 62 (decide (((-1) : Int) ≤ a0.Which)) (by kernel_rfl) ?_ ?_
        · refine SimI.run 5 [(67, .one (lb (decide (a0.Which ≤ 100)))), (66, .one (lb (decide (a0.Which ≤ 100)))), (65, .one (lb (decide (a0.Which ≤ 100)))), (64, .one (li .i64 a0.Which)), (63, .one (.ptr 1 2))] [] (by kernel_rfl) ?_
          refine SimI.split 67 (decide (a0.Which ≤ 100)) (by kernel_rfl) ?_ ?_
          · refine SimI.run 5 [(72, .one (lb (decide (((-1) : Int) ≤ a0.To)))), (71, .one (lb (decide (((-1) : Int) ≤ a0.To)))), (70, .one (lb (decide (((-1) : Int) ≤ a0.To)))), (69, .one (li .i64 a0.To)), (68, .one (.ptr 1 3))] [] (by kernel_rfl) ?_
            refine SimI.split 72 (decide (((-1) : Int) ≤ a0.To)) (by kernel_rfl) ?_ ?_
            · refine SimI.run 5 [(77, .one (lb (decide (a0.To ≤ 100)))), (76, .one (lb (decide (a0.To ≤ 100)))), (75, .one (lb (decide (a0.To ≤ 100)))), (74, .one (li .i64 a0.To)), (73, .one (.ptr 1 3))] [] (by kernel_rfl) ?_
              refine SimI.split 77 (decide (a0.To ≤ 100)) (by kernel_rfl) ?_ ?_
              · refine SimI.run 2 [(79, .agg [li .i64 a0.Value.N, ls a0.Value.Text]), (78, .one (.ptr 1 14))] [] (by kernel_rfl) ?_
                refine SimI.bind (og := F26 n a0.Value) { dst := some 80, op := POp.call true [[]] 26 [Operand.tmp 79], guard := some (77, true), hints := [] } (fun r10 => [(80, .one (lb r10))]) (fun r10 => []) (by kernel_rfl) (fun r10 hr => pOp_eff (by kernel_rfl) (by kernel_rfl) (eff_call (ARGS := [.agg [li .i64 a0.Value.N, ls a0.Value.Text]]) (by kernel_rfl) (args_clean (by kernel_rfl) args_nil) (F26_ok n a0.Value r10 hr) (by kernel_rfl))) (fun r10 => ?_)
                refine SimI.run 2 [(7, .one (lb r10)), (81, .one (lb r10))] [] (by kernel_rfl) ?_
                refine SimI.done (by kernel_rfl) ?_
                refine SimE.thenN ?_
                refine Sim.pre (ts := [1, 5, 6, 7]) (os := [1]) (ow := []) [(1, .one (.ptr 1 0)), (5, .one (lb b6)), (6, .one (lb b8)), (7, .one (lb r10))] [(1, some (.cells (Command.cells a0)))] (by kernel_rfl) (by kernel_rfl) (by kernel_rfl) ?_
                exact F35_j12_ok n a0 b6 b8 r10
              · refine SimI.run 5 [(7, .one (lb false)), (81, .one (lb false)), (80, .tup []), (79, .tup []), (78, .tup [])] [] (by kernel_rfl) ?_
                refine SimI.done (by kernel_rfl) ?_
                refine SimE.thenN ?_
                refine Sim.pre (ts := [1, 5, 6, 7]) (os := [1]) (ow := []) [(1, .one (.ptr 1 0)), (5, .one (lb b6)), (6, .one (lb b8)), (7, .one (lb false))] [(1, some (.cells (Command.cells a0)))] (by kernel_rfl) (by kernel_rfl) (by kernel_rfl) ?_
                exact F35_j12_ok n a0 b6 b8 false
            · refine SimI.run 10 [(7, .one (lb false)), (81, .one (lb false)), (80, .tup []), (79, .tup []), (78, .tup []), (77, .one (lb false)), (76, .one (lb false)), (75, .tup []), (74, .tup []), (73, .tup [])] [] (by kernel_rfl) ?_
              refine SimI.done (by kernel_rfl) ?_
              refine SimE.thenN ?_
              refine Sim.pre (ts := [1, 5, 6, 7]) (os := [1]) (ow := []) [(1, .one (.ptr 1 0)), (5, .one (lb b6)), (6, .one (lb b8)), (7, .one (lb false))] [(1, some (.cells (Command.cells a0)))] (by kernel_rfl) (by kernel_rfl) (by kernel_rfl) ?_
              exact F35_j12_ok n a0 b6 b8 false
          · refine SimI.run 15 [(7, .one (lb false)), (81, .one (lb false)), (80, .tup []), (79, .tup []), (78, .tup []), (77, .one (lb false)), (76, .one (lb false)), (75, .tup []), (74, .tup []), (73, .tup []), (72, .one (lb false)), (71, .one (lb false)), (70, .tup []), (69, .tup []), (68, .tup [])] [] (by kernel_rfl) ?_
            refine SimI.done (by kernel_rfl) ?_
            refine SimE.thenN ?_
            refine Sim.pre (ts := [1, 5, 6, 7]) (os := [1]) (ow := []) [(1, .one (.ptr 1 0)), (5, .one (lb b6)), (6, .one (lb b8)), (7, .one (lb false))] [(1, some (.cells (Command.cells a0)))] (by kernel_rfl) (by kernel_rfl) (by kernel_rfl) ?_
            exact F35_j12_ok n a0 b6 b8 false
        · refine SimI.run 20 [(7, .one (lb false)), (81, .one (lb false)), (80, .tup []), (79, .tup []), (78, .tup []), (77, .one (lb false)), (76, .one (lb false)), (75, .tup []), (74, .tup []), (73, .tup []), (72, .one (lb false)), (71, .one (lb false)), (70, .tup []), (69, .tup []), (68, .tup []), (67, .one (lb false)), (66, .one (lb false)), (65, .tup []), (64, .tup []), (63, .tup [])] [] (by kernel_rfl) ?_
          refine SimI.done (by kernel_rfl) ?_
          refine SimE.thenN ?_
          refine Sim.pre (ts := [1, 5, 6, 7]) (os := [1]) (ow := []) [(1, .one (.ptr 1 0)), (5, .one (lb b6)), (6, .one (lb b8)), (7, .one (lb false))] [(1, some (.cells (Command.cells a0)))] (by kernel_rfl) (by kernel_rfl) (by kernel_rfl) ?_
          exact F35_j12_ok n a0 b6 b8 false
      · refine SimI.run 25 [(7, .one (lb false)), (81, .one (lb false)), (80, .tup []), (79, .tup []), (78, .tup []), (77, .one (lb false)), (76, .one (lb false)), (75, .tup []), (74, .tup []), (73, .tup []), (72, .one (lb false)), (71, .one (lb false)), (70, .tup []), (69, .tup []), (68, .tup []), (67, .one (lb false)), (66, .one (lb false)), (65, .tup []), (64, .tup []), (63, .tup []), (62, .one (lb false)), (61, .one (lb false)), (60, .tup []), (59, .tup []), (58, .tup [])] [] (by kernel_rfl) ?_
        refine SimI.done (by kernel_rfl) ?_
        refine SimE.thenN ?_
        refine Sim.pre (ts := [1, 5, 6, 7]) (os := [1]) (ow := []) [(1, .one (.ptr 1 0)), (5, .one (lb b6)), (6, .one (lb b8)), (7, .one (lb false))] [(1, some (.cells (Command.cells a0)))] (by kernel_rfl) (by kernel_rfl) (by kernel_rfl) ?_
        exact F35_j12_ok n a0 b6 b8 false
    · refine SimI.run 30 [(7, .one (lb false)), (81, .one (lb false)), (80, .tup []), (79, .tup []), (78, .tup []), (77, .one (lb false)), (76, .one (lb false)), (75, .tup []), (74, .tup []), (73, .tup []), (72, .one (lb false)), (71, .one (lb false)), (70, .tup []), (69, .tup []), (68, .tup []), (67, .one (lb false)), (66, .one (lb false)), (65, .tup []), (64, .tup []), (63, .tup []), (62, .one (lb false)), (61, .one (lb false)), (60, .tup []), (59, .tup []), (58, .tup []), (57, .one (lb false)), (56, .one (lb false)), (55, .tup []), (54, .tup []), (53, .tup [])] [] (by kernel_rfl) ?_
      refine SimI.done (by kernel_rfl) ?_
      refine SimE.thenN ?_
      refine Sim.pre (ts := [1, 5, 6, 7]) (os := [1]) (ow := []) [(1, .one (.ptr 1 0)), (5, .one (lb b6)), (6, .one (lb b8)), (7, .one (lb false))] [(1, some (.cells (Command.cells a0)))] (by kernel_rfl) (by kernel_rfl) (by kernel_rfl) ?_
      exact F35_j12_ok n a0 b6 b8 false

def F35_j7 (n : Nat) (a0 : Command) (b6 : Bool) : Option Bool :=
    if decide ((0 : Int) ≤ a0.Client) then
      if decide (a0.Client < 4) then
        if decide ((0 : Int) ≤ a0.Session) then
          F35_j9 n a0 b6 (decide (a0.Session ≤ 1000000))
        else
          F35_j9 n a0 b6 false
      else
        F35_j9 n a0 b6 false
    else
      F35_j9 n a0 b6 false
theorem F35_j7_ok (n : Nat) (a0 : Command) (b6 : Bool) : Sim Try.prog D (n + 8) pc35_c31 [(1, .one (.ptr 1 0)), (5, .one (lb b6))] [(1, some (.cells (Command.cells a0)))] (F35_j7 n a0 b6) (QF false pc35_r 0 F35_e) := by
    unfold F35_j7
    refine Sim.seq ?_
    refine Sim.region [(1, .one (.ptr 1 0)), (5, .one (lb b6))] [(1, some (.cells (Command.cells a0)))] (by kernel_rfl) ?_
    refine SimI.run 4 [(34, .one (lb (decide ((0 : Int) ≤ a0.Client)))), (33, .one (lb (decide ((0 : Int) ≤ a0.Client)))), (32, .one (li .i64 a0.Client)), (31, .one (.ptr 1 16))] [] (by kernel_rfl) ?_
    refine SimI.split 34 (decide ((0 : Int) ≤ a0.Client)) (by kernel_rfl) ?_ ?_
    · refine SimI.run 5 [(39, .one (lb (decide (a0.Client < 4)))), (38, .one (lb (decide (a0.Client < 4)))), (37, .one (lb (decide (a0.Client < 4)))), (36, .one (li .i64 a0.Client)), (35, .one (.ptr 1 16))] [] (by kernel_rfl) ?_
      refine SimI.split 39 (decide (a0.Client < 4)) (by kernel_rfl) ?_ ?_
      · refine SimI.run 5 [(44, .one (lb (decide ((0 : Int) ≤ a0.Session)))), (43, .one (lb (decide ((0 : Int) ≤ a0.Session)))), (42, .one (lb (decide ((0 : Int) ≤ a0.Session)))), (41, .one (li .i64 a0.Session)), (40, .one (.ptr 1 17))] [] (by kernel_rfl) ?_
        refine SimI.split 44 (decide ((0 : Int) ≤ a0.Session)) (by kernel_rfl) ?_ ?_
        · refine SimI.run 5 [(6, .one (lb (decide (a0.Session ≤ 1000000)))), (48, .one (lb (decide (a0.Session ≤ 1000000)))), (47, .one (lb (decide (a0.Session ≤ 1000000)))), (46, .one (li .i64 a0.Session)), (45, .one (.ptr 1 17))] [] (by kernel_rfl) ?_
          refine SimI.done (by kernel_rfl) ?_
          refine SimE.thenN ?_
          refine Sim.pre (ts := [1, 5, 6]) (os := [1]) (ow := []) [(1, .one (.ptr 1 0)), (5, .one (lb b6)), (6, .one (lb (decide (a0.Session ≤ 1000000))))] [(1, some (.cells (Command.cells a0)))] (by kernel_rfl) (by kernel_rfl) (by kernel_rfl) ?_
          exact F35_j9_ok n a0 b6 (decide (a0.Session ≤ 1000000))
        · refine SimI.run 5 [(6, .one (lb false)), (48, .one (lb false)), (47, .tup []), (46, .tup []), (45, .tup [])] [] (by kernel_rfl) ?_
          refine SimI.done (by kernel_rfl) ?_
          refine SimE.thenN ?_
          refine Sim.pre (ts := [1, 5, 6]) (os := [1]) (ow := []) [(1, .one (.ptr 1 0)), (5, .one (lb b6)), (6, .one (lb false))] [(1, some (.cells (Command.cells a0)))] (by kernel_rfl) (by kernel_rfl) (by kernel_rfl) ?_
          exact F35_j9_ok n a0 b6 false
      · refine SimI.run 10 [(6, .one (lb false)), (48, .one (lb false)), (47, .tup []), (46, .tup []), (45, .tup []), (44, .one (lb false)), (43, .one (lb false)), (42, .tup []), (41, .tup []), (40, .tup [])] [] (by kernel_rfl) ?_
        refine SimI.done (by kernel_rfl) ?_
        refine SimE.thenN ?_
        refine Sim.pre (ts := [1, 5, 6]) (os := [1]) (ow := []) [(1, .one (.ptr 1 0)), (5, .one (lb b6)), (6, .one (lb false))] [(1, some (.cells (Command.cells a0)))] (by kernel_rfl) (by kernel_rfl) (by kernel_rfl) ?_
        exact F35_j9_ok n a0 b6 false
    · refine SimI.run 15 [(6, .one (lb false)), (48, .one (lb false)), (47, .tup []), (46, .tup []), (45, .tup []), (44, .one (lb false)), (43, .one (lb false)), (42, .tup []), (41, .tup []), (40, .tup []), (39, .one (lb false)), (38, .one (lb false)), (37, .tup []), (36, .tup []), (35, .tup [])] [] (by kernel_rfl) ?_
      refine SimI.done (by kernel_rfl) ?_
      refine SimE.thenN ?_
      refine Sim.pre (ts := [1, 5, 6]) (os := [1]) (ow := []) [(1, .one (.ptr 1 0)), (5, .one (lb b6)), (6, .one (lb false))] [(1, some (.cells (Command.cells a0)))] (by kernel_rfl) (by kernel_rfl) (by kernel_rfl) ?_
      exact F35_j9_ok n a0 b6 false

def F35 (n : Nat) (a0 : Command) : Option Bool :=
  (F26 n a0.F.a0).bind fun (r1 : Bool) =>
  if !(r1) then
    some false
  else
    (F26 n a0.F.a1).bind fun (r2 : Bool) =>
    if !(r2) then
      some false
    else
      (F26 n a0.F.a2).bind fun (r3 : Bool) =>
      if !(r3) then
        some false
      else
        (F26 n a0.F.a3).bind fun (r4 : Bool) =>
        if !(r4) then
          some false
        else
          if decide ((1 : Int) ≤ a0.Kind) then
            if decide (a0.Kind ≤ 8) then
              (F58 n a0).bind fun (r5 : Command) =>
              F35_j7 n a0 (Command.eqb a0 r5)
            else
              F35_j7 n a0 false
          else
            F35_j7 n a0 false
theorem F35_ok (n : Nat) (a0 : Command) : ∀ r, F35 n a0 = some r → D 35 [.agg (Command.cells a0)] [] = some (F35_e r) := by
  refine fn_to (D := D) (n := n + 8) (nt := 111) (rs := pc35_r) (c := pc35_c34) (L := [(0, .agg (Command.cells a0))]) (M := []) (k := 0) rfl rfl rfl rfl rfl rfl rfl ?_
  unfold F35
  refine Sim.seq ?_
  refine Sim.region0 ?_
  refine SimI.run 2 [(2, .one (lb false)), (1, .one (.ptr 1 0))] [(1, some (.cells (Command.cells a0)))] (by kernel_rfl) ?_
  refine SimI.done (by kernel_rfl) ?_
  refine SimE.thenN ?_
  refine Sim.seq ?_
  refine Sim.seq ?_
  refine Sim.region0 ?_
  refine SimI.run 3 [(10, .one (li .i64 0)), (9, .agg (A4_Field.cells a0.F)), (8, .one (.ptr 1 6))] [] (by kernel_rfl) ?_
  refine SimI.done (by kernel_rfl) ?_
  refine SimE.thenN ?_
  refine Sim.block ?_
  refine Sim.loop ?_
  refine SimL.succ ?_
  refine Sim.seq ?_
  refine Sim.region [(1, .one (.ptr 1 0)), (9, .agg (A4_Field.cells a0.F)), (10, .one (li .i64 0))] [(1, some (.cells (Command.cells a0)))] (by kernel_rfl) ?_
  refine SimI.run 1 [(11, .one (lb true))] [] (by kernel_rfl) ?_
  refine SimI.done (by kernel_rfl) ?_
  refine SimE.thenN ?_
  refine Sim.seq ?_
  refine Sim.condT (by kernel_rfl) ?_
  refine Sim.skip ?_
  refine SimE.thenN ?_
  refine Sim.seq ?_
  refine Sim.block ?_
  refine Sim.seq ?_
  refine Sim.region0 ?_
  refine SimI.run 3 [(4, .one (.ptr 4 0)), (12, .agg [li .i64 a0.F.a0.N, ls a0.F.a0.Text])] [(4, some (.cells [li .i64 a0.F.a0.N, ls a0.F.a0.Text])), (4, some (.cells [li .i64 0, ls ByteArray.empty]))] (by kernel_rfl) ?_
  refine SimI.done (by kernel_rfl) ?_
  refine SimE.thenN ?_
  refine Sim.seq ?_
  refine Sim.region0 ?_
  refine SimI.run 1 [(13, .agg [li .i64 a0.F.a0.N, ls a0.F.a0.Text])] [] (by kernel_rfl) ?_
  refine SimI.bind (og := F26 n a0.F.a0) { dst := some 14, op := POp.call true [[]] 26 [Operand.tmp 13], guard := none, hints := [] } (fun r1 => [(14, .one (lb r1))]) (fun r1 => []) (by kernel_rfl) (fun r1 hr => pOp_eff (by kernel_rfl) (by kernel_rfl) (eff_call (ARGS := [.agg [li .i64 a0.F.a0.N, ls a0.F.a0.Text]]) (by kernel_rfl) (args_clean (by kernel_rfl) args_nil) (F26_ok n a0.F.a0 r1 hr) (by kernel_rfl))) (fun r1 => ?_)
  refine SimI.run 1 [(15, .one (lb (!(r1))))] [] (by kernel_rfl) ?_
  refine SimI.done (by kernel_rfl) ?_
  refine SimE.thenN ?_
  refine Sim.cond (!(r1)) (by kernel_rfl) ?_ ?_
  · refine Sim.seq ?_
    refine Sim.region0 ?_
    refine SimI.run 1 [(2, .one (lb false))] [] (by kernel_rfl) ?_
    refine SimI.done (by kernel_rfl) ?_
    refine SimE.thenN ?_
    refine Sim.ret ?_
    refine SimE.blockR ?_
    refine SimE.thenR ?_
    refine SimE.loopR ?_
    refine SimE.blockR ?_
    refine SimE.thenR ?_
    exact SimE.fin (by kernel_rfl)
  · refine Sim.skip ?_
    refine SimE.blockN ?_
    refine SimE.thenN ?_
    refine Sim.region0 ?_
    refine SimI.run 2 [(10, .one (li .i64 1)), (16, .one (li .i64 1))] [] (by kernel_rfl) ?_
    refine SimI.done (by kernel_rfl) ?_
    refine SimE.loopN ?_
    refine SimL.succ ?_
    refine Sim.seq ?_
    refine Sim.region [(1, .one (.ptr 1 0)), (9, .agg (A4_Field.cells a0.F)), (10, .one (li .i64 1))] [(1, some (.cells (Command.cells a0)))] (by kernel_rfl) ?_
    refine SimI.run 1 [(11, .one (lb true))] [] (by kernel_rfl) ?_
    refine SimI.done (by kernel_rfl) ?_
    refine SimE.thenN ?_
    refine Sim.seq ?_
    refine Sim.condT (by kernel_rfl) ?_
    refine Sim.skip ?_
    refine SimE.thenN ?_
    refine Sim.seq ?_
    refine Sim.block ?_
    refine Sim.seq ?_
    refine Sim.region0 ?_
    refine SimI.run 3 [(4, .one (.ptr 4 0)), (12, .agg [li .i64 a0.F.a1.N, ls a0.F.a1.Text])] [(4, some (.cells [li .i64 a0.F.a1.N, ls a0.F.a1.Text])), (4, some (.cells [li .i64 0, ls ByteArray.empty]))] (by kernel_rfl) ?_
    refine SimI.done (by kernel_rfl) ?_
    refine SimE.thenN ?_
    refine Sim.seq ?_
    refine Sim.region0 ?_
    refine SimI.run 1 [(13, .agg [li .i64 a0.F.a1.N, ls a0.F.a1.Text])] [] (by kernel_rfl) ?_
    refine SimI.bind (og := F26 n a0.F.a1) { dst := some 14, op := POp.call true [[]] 26 [Operand.tmp 13], guard := none, hints := [] } (fun r2 => [(14, .one (lb r2))]) (fun r2 => []) (by kernel_rfl) (fun r2 hr => pOp_eff (by kernel_rfl) (by kernel_rfl) (eff_call (ARGS := [.agg [li .i64 a0.F.a1.N, ls a0.F.a1.Text]]) (by kernel_rfl) (args_clean (by kernel_rfl) args_nil) (F26_ok n a0.F.a1 r2 hr) (by kernel_rfl))) (fun r2 => ?_)
    refine SimI.run 1 [(15, .one (lb (!(r2))))] [] (by kernel_rfl) ?_
    refine SimI.done (by kernel_rfl) ?_
    refine SimE.thenN ?_
    refine Sim.cond (!(r2)) (by kernel_rfl) ?_ ?_
    · refine Sim.seq ?_
      refine Sim.region0 ?_
      refine SimI.run 1 [(2, .one (lb false))] [] (by kernel_rfl) ?_
      refine SimI.done (by kernel_rfl) ?_
      refine SimE.thenN ?_
      refine Sim.ret ?_
      refine SimE.blockR ?_
      refine SimE.thenR ?_
      refine SimE.loopR ?_
      refine SimE.blockR ?_
      refine SimE.thenR ?_
      exact SimE.fin (by kernel_rfl)
    · refine Sim.skip ?_
      refine SimE.blockN ?_
      refine SimE.thenN ?_
      refine Sim.region0 ?_
      refine SimI.run 2 [(10, .one (li .i64 2)), (16, .one (li .i64 2))] [] (by kernel_rfl) ?_
      refine SimI.done (by kernel_rfl) ?_
      refine SimE.loopN ?_
      refine SimL.succ ?_
      refine Sim.seq ?_
      refine Sim.region [(1, .one (.ptr 1 0)), (9, .agg (A4_Field.cells a0.F)), (10, .one (li .i64 2))] [(1, some (.cells (Command.cells a0)))] (by kernel_rfl) ?_
      refine SimI.run 1 [(11, .one (lb true))] [] (by kernel_rfl) ?_
      refine SimI.done (by kernel_rfl) ?_
      refine SimE.thenN ?_
      refine Sim.seq ?_
      refine Sim.condT (by kernel_rfl) ?_
      refine Sim.skip ?_
      refine SimE.thenN ?_
      refine Sim.seq ?_
      refine Sim.block ?_
      refine Sim.seq ?_
      refine Sim.region0 ?_
      refine SimI.run 3 [(4, .one (.ptr 4 0)), (12, .agg [li .i64 a0.F.a2.N, ls a0.F.a2.Text])] [(4, some (.cells [li .i64 a0.F.a2.N, ls a0.F.a2.Text])), (4, some (.cells [li .i64 0, ls ByteArray.empty]))] (by kernel_rfl) ?_
      refine SimI.done (by kernel_rfl) ?_
      refine SimE.thenN ?_
      refine Sim.seq ?_
      refine Sim.region0 ?_
      refine SimI.run 1 [(13, .agg [li .i64 a0.F.a2.N, ls a0.F.a2.Text])] [] (by kernel_rfl) ?_
      refine SimI.bind (og := F26 n a0.F.a2) { dst := some 14, op := POp.call true [[]] 26 [Operand.tmp 13], guard := none, hints := [] } (fun r3 => [(14, .one (lb r3))]) (fun r3 => []) (by kernel_rfl) (fun r3 hr => pOp_eff (by kernel_rfl) (by kernel_rfl) (eff_call (ARGS := [.agg [li .i64 a0.F.a2.N, ls a0.F.a2.Text]]) (by kernel_rfl) (args_clean (by kernel_rfl) args_nil) (F26_ok n a0.F.a2 r3 hr) (by kernel_rfl))) (fun r3 => ?_)
      refine SimI.run 1 [(15, .one (lb (!(r3))))] [] (by kernel_rfl) ?_
      refine SimI.done (by kernel_rfl) ?_
      refine SimE.thenN ?_
      refine Sim.cond (!(r3)) (by kernel_rfl) ?_ ?_
      · refine Sim.seq ?_
        refine Sim.region0 ?_
        refine SimI.run 1 [(2, .one (lb false))] [] (by kernel_rfl) ?_
        refine SimI.done (by kernel_rfl) ?_
        refine SimE.thenN ?_
        refine Sim.ret ?_
        refine SimE.blockR ?_
        refine SimE.thenR ?_
        refine SimE.loopR ?_
        refine SimE.blockR ?_
        refine SimE.thenR ?_
        exact SimE.fin (by kernel_rfl)
      · refine Sim.skip ?_
        refine SimE.blockN ?_
        refine SimE.thenN ?_
        refine Sim.region0 ?_
        refine SimI.run 2 [(10, .one (li .i64 3)), (16, .one (li .i64 3))] [] (by kernel_rfl) ?_
        refine SimI.done (by kernel_rfl) ?_
        refine SimE.loopN ?_
        refine SimL.succ ?_
        refine Sim.seq ?_
        refine Sim.region [(1, .one (.ptr 1 0)), (9, .agg (A4_Field.cells a0.F)), (10, .one (li .i64 3))] [(1, some (.cells (Command.cells a0)))] (by kernel_rfl) ?_
        refine SimI.run 1 [(11, .one (lb true))] [] (by kernel_rfl) ?_
        refine SimI.done (by kernel_rfl) ?_
        refine SimE.thenN ?_
        refine Sim.seq ?_
        refine Sim.condT (by kernel_rfl) ?_
        refine Sim.skip ?_
        refine SimE.thenN ?_
        refine Sim.seq ?_
        refine Sim.block ?_
        refine Sim.seq ?_
        refine Sim.region0 ?_
        refine SimI.run 3 [(4, .one (.ptr 4 0)), (12, .agg [li .i64 a0.F.a3.N, ls a0.F.a3.Text])] [(4, some (.cells [li .i64 a0.F.a3.N, ls a0.F.a3.Text])), (4, some (.cells [li .i64 0, ls ByteArray.empty]))] (by kernel_rfl) ?_
        refine SimI.done (by kernel_rfl) ?_
        refine SimE.thenN ?_
        refine Sim.seq ?_
        refine Sim.region0 ?_
        refine SimI.run 1 [(13, .agg [li .i64 a0.F.a3.N, ls a0.F.a3.Text])] [] (by kernel_rfl) ?_
        refine SimI.bind (og := F26 n a0.F.a3) { dst := some 14, op := POp.call true [[]] 26 [Operand.tmp 13], guard := none, hints := [] } (fun r4 => [(14, .one (lb r4))]) (fun r4 => []) (by kernel_rfl) (fun r4 hr => pOp_eff (by kernel_rfl) (by kernel_rfl) (eff_call (ARGS := [.agg [li .i64 a0.F.a3.N, ls a0.F.a3.Text]]) (by kernel_rfl) (args_clean (by kernel_rfl) args_nil) (F26_ok n a0.F.a3 r4 hr) (by kernel_rfl))) (fun r4 => ?_)
        refine SimI.run 1 [(15, .one (lb (!(r4))))] [] (by kernel_rfl) ?_
        refine SimI.done (by kernel_rfl) ?_
        refine SimE.thenN ?_
        refine Sim.cond (!(r4)) (by kernel_rfl) ?_ ?_
        · refine Sim.seq ?_
          refine Sim.region0 ?_
          refine SimI.run 1 [(2, .one (lb false))] [] (by kernel_rfl) ?_
          refine SimI.done (by kernel_rfl) ?_
          refine SimE.thenN ?_
          refine Sim.ret ?_
          refine SimE.blockR ?_
          refine SimE.thenR ?_
          refine SimE.loopR ?_
          refine SimE.blockR ?_
          refine SimE.thenR ?_
          exact SimE.fin (by kernel_rfl)
        · refine Sim.skip ?_
          refine SimE.blockN ?_
          refine SimE.thenN ?_
          refine Sim.region0 ?_
          refine SimI.run 2 [(10, .one (li .i64 4)), (16, .one (li .i64 4))] [] (by kernel_rfl) ?_
          refine SimI.done (by kernel_rfl) ?_
          refine SimE.loopN ?_
          refine SimL.succ ?_
          refine Sim.seq ?_
          refine Sim.region [(1, .one (.ptr 1 0)), (9, .agg (A4_Field.cells a0.F)), (10, .one (li .i64 4))] [(1, some (.cells (Command.cells a0)))] (by kernel_rfl) ?_
          refine SimI.run 1 [(11, .one (lb false))] [] (by kernel_rfl) ?_
          refine SimI.done (by kernel_rfl) ?_
          refine SimE.thenN ?_
          refine Sim.seq ?_
          refine Sim.condF (by kernel_rfl) ?_
          refine Sim.exit ?_
          refine SimE.thenX ?_
          refine SimE.loopX ?_
          refine SimE.blockX ?_
          refine SimE.thenN ?_
          refine Sim.seq ?_
          refine Sim.region0 ?_
          refine SimI.run 4 [(20, .one (lb (decide ((1 : Int) ≤ a0.Kind)))), (19, .one (lb (decide ((1 : Int) ≤ a0.Kind)))), (18, .one (li .i64 a0.Kind)), (17, .one (.ptr 1 0))] [] (by kernel_rfl) ?_
          refine SimI.split 20 (decide ((1 : Int) ≤ a0.Kind)) (by kernel_rfl) ?_ ?_
          · refine SimI.run 5 [(25, .one (lb (decide (a0.Kind ≤ 8)))), (24, .one (lb (decide (a0.Kind ≤ 8)))), (23, .one (lb (decide (a0.Kind ≤ 8)))), (22, .one (li .i64 a0.Kind)), (21, .one (.ptr 1 0))] [] (by kernel_rfl) ?_
            refine SimI.split 25 (decide (a0.Kind ≤ 8)) (by kernel_rfl) ?_ ?_
            · refine SimI.run 2 [(27, .agg (Command.cells a0)), (26, .agg (Command.cells a0))] [] (by kernel_rfl) ?_
              refine SimI.bind (og := F58 n a0) { dst := some 28, op := POp.call false [[]] 58 [Operand.tmp 27], guard := some (25, true), hints := [(27, Hint.imm)] } (fun r5 => [(28, .agg (Command.cells r5))]) (fun r5 => []) (by kernel_rfl) (fun r5 hr => pOp_eff (by kernel_rfl) (by kernel_rfl) (eff_call (ARGS := [.agg (Command.cells a0)]) (by kernel_rfl) (args_clean (by kernel_rfl) args_nil) (F58_ok n a0 r5 hr) (by kernel_rfl))) (fun r5 => ?_)
              refine SimI.step { dst := some 29, op := POp.prim (Prim.bin BinOp.eql 57 false false) [Operand.tmp 26, Operand.tmp 28], guard := some (25, true), hints := [(26, Hint.imm), (28, Hint.imm)] } [(29, .one (lb (Command.eqb a0 r5)))] [] (by kernel_rfl) (pOp_eff (by kernel_rfl) (by kernel_rfl) (eff_prim (by kernel_rfl) (Command_eql a0 r5 _ _))) ?_
              refine SimI.run 2 [(5, .one (lb (Command.eqb a0 r5))), (30, .one (lb (Command.eqb a0 r5)))] [] (by kernel_rfl) ?_
              refine SimI.done (by kernel_rfl) ?_
              refine SimE.thenN ?_
              refine Sim.pre (ts := [1, 5]) (os := [1]) (ow := []) [(1, .one (.ptr 1 0)), (5, .one (lb (Command.eqb a0 r5)))] [(1, some (.cells (Command.cells a0)))] (by kernel_rfl) (by kernel_rfl) (by kernel_rfl) ?_
              exact F35_j7_ok n a0 (Command.eqb a0 r5)
            · refine SimI.run 6 [(5, .one (lb false)), (30, .one (lb false)), (29, .tup []), (28, .tup []), (27, .tup []), (26, .tup [])] [] (by kernel_rfl) ?_
              refine SimI.done (by kernel_rfl) ?_
              refine SimE.thenN ?_
              refine Sim.pre (ts := [1, 5]) (os := [1]) (ow := []) [(1, .one (.ptr 1 0)), (5, .one (lb false))] [(1, some (.cells (Command.cells a0)))] (by kernel_rfl) (by kernel_rfl) (by kernel_rfl) ?_
              exact F35_j7_ok n a0 false
          · refine SimI.run 11 [(5, .one (lb false)), (30, .one (lb false)), (29, .tup []), (28, .tup []), (27, .tup []), (26, .tup []), (25, .one (lb false)), (24, .one (lb false)), (23, .tup []), (22, .tup []), (21, .tup [])] [] (by kernel_rfl) ?_
            refine SimI.done (by kernel_rfl) ?_
            refine SimE.thenN ?_
            refine Sim.pre (ts := [1, 5]) (os := [1]) (ow := []) [(1, .one (.ptr 1 0)), (5, .one (lb false))] [(1, some (.cells (Command.cells a0)))] (by kernel_rfl) (by kernel_rfl) (by kernel_rfl) ?_
            exact F35_j7_ok n a0 false


-- 42: vedette/num.Put
def F42_e : ByteArray → PV × List Ob := fun r => (.one (ls r), [])
def F42_l7 (n : Nat) : Nat → Int → (List Int) → Option ByteArray
  | 0, _, _ => none
  | m + 1, i5, l6 =>
    if decide ((128 : Int) ≤ i5) then
      if ((l6).length + 1) * 1 ≤ maxCells ∧ (l6).length + 1 ≤ maxCells then
        (F42_l7 n m) (shrI .u64 i5 7) (l6 ++ [bitsI .or .u8 (IntKind.wrap .u8 i5) 128])
      else none
    else
      if ((l6).length + 1) * 1 ≤ maxCells ∧ (l6).length + 1 ≤ maxCells then
        some (mkStr (l6 ++ [IntKind.wrap .u8 i5]))
      else none
theorem F42_l7_ok (n : Nat) : ∀ (m : Nat) (i5 : Int) (l6 : (List Int)), SimL Try.prog D (n + 8) m pc42_c12 [(0, .one (li .u64 i5)), (3, .one (.osl 100003 0 0 (l6).length))] [(100003, some (.arr 5 (codI .u8).sz 0 (l6).length (getOf (codI .u8) l6)))] (F42_l7 n m i5 l6) (QB 0 (QT Try.prog D (n + 8) pc42_c17 (QF false pc42_r 0 F42_e))) := by
  intro m_l7
  induction m_l7 with
  | zero => intro i5 l6; exact SimL.zero'  rfl
  | succ m_l7 ih_l7 =>
    intro i5 l6
    refine SimL.succ ?_
    unfold F42_l7
    refine Sim.seq ?_
    refine Sim.seq ?_
    refine Sim.region [(0, .one (li .u64 i5)), (3, .one (.osl 100003 0 0 (l6).length))] [(100003, some (.arr 5 (codI .u8).sz 0 (l6).length (getOf (codI .u8) l6)))] (by kernel_rfl) ?_
    refine SimI.run 2 [(5, .one (lb (decide ((128 : Int) ≤ i5)))), (4, .one (li .u64 i5))] [] (by kernel_rfl) ?_
    refine SimI.done (by kernel_rfl) ?_
    refine SimE.thenN ?_
    refine Sim.cond (decide ((128 : Int) ≤ i5)) (by kernel_rfl) ?_ ?_
    · refine Sim.skip ?_
      refine SimE.thenN ?_
      refine Sim.block ?_
      refine Sim.seq ?_
      refine Sim.region0 ?_
      refine SimI.run 5 [(10, .one (vw (codI .u8) [bitsI .or .u8 (IntKind.wrap .u8 i5) 128])), (9, .one (li .u8 (bitsI .or .u8 (IntKind.wrap .u8 i5) 128))), (8, .one (li .u8 (IntKind.wrap .u8 i5))), (7, .one (li .u64 i5)), (6, .one (.osl 100003 0 0 (l6).length))] [] (by kernel_rfl) ?_
      refine SimI.guard (c := ((l6).length + 1) * 1 ≤ maxCells ∧ (l6).length + 1 ≤ maxCells) { dst := some 11, op := POp.app 100003 5 1 1 (Operand.tmp 6) (Operand.tmp 10), guard := none, hints := [] } [(11, .one (.osl 100003 (0 + 1) 0 ((l6 ++ [bitsI .or .u8 (IntKind.wrap .u8 i5) 128])).length))] [(100003, some (.arr 5 (codI .u8).sz (0 + 1) ((l6 ++ [bitsI .or .u8 (IntKind.wrap .u8 i5) 128])).length (getOf (codI .u8) (l6 ++ [bitsI .or .u8 (IntKind.wrap .u8 i5) 128]))))] (by kernel_rfl) (fun hc => pOp_eff (by kernel_rfl) (by kernel_rfl) (eff_appO (c := (codI .u8)) (g := 0) (l := l6) (a := bitsI .or .u8 (IntKind.wrap .u8 i5) 128) (by kernel_rfl) (by kernel_rfl) (by kernel_rfl) (by kernel_rfl) hc)) ?_
      refine SimI.run 1 [(3, .one (.osl 100003 (0 + 1) 0 ((l6 ++ [bitsI .or .u8 (IntKind.wrap .u8 i5) 128])).length))] [] (by kernel_rfl) ?_
      refine SimI.done (by kernel_rfl) ?_
      refine SimE.thenN ?_
      refine Sim.region0 ?_
      refine SimI.run 3 [(0, .one (li .u64 (shrI .u64 i5 7))), (13, .one (li .u64 (shrI .u64 i5 7))), (12, .one (li .u64 i5))] [] (by kernel_rfl) ?_
      refine SimI.done (by kernel_rfl) ?_
      refine SimE.blockN ?_
      refine SimE.loopN ?_
      refine SimL.pre (ts := [0, 3]) (os := [100003]) (ow := [(false, 3, 0, 100003, 5, 1)]) [(0, .one (li .u64 (shrI .u64 i5 7))), (3, .one (.osl 100003 0 0 ((l6 ++ [bitsI .or .u8 (IntKind.wrap .u8 i5) 128])).length))] [(100003, some (.arr 5 (codI .u8).sz 0 ((l6 ++ [bitsI .or .u8 (IntKind.wrap .u8 i5) 128])).length (getOf (codI .u8) (l6 ++ [bitsI .or .u8 (IntKind.wrap .u8 i5) 128]))))] (by kernel_rfl) (by kernel_rfl) (by kernel_rfl) ?_
      exact ih_l7 (shrI .u64 i5 7) (l6 ++ [bitsI .or .u8 (IntKind.wrap .u8 i5) 128])
    · refine Sim.exit ?_
      refine SimE.thenX ?_
      refine SimE.loopX ?_
      refine SimE.blockX ?_
      refine SimE.thenN ?_
      refine Sim.seq ?_
      refine Sim.region0 ?_
      refine SimI.run 4 [(17, .one (vw (codI .u8) [IntKind.wrap .u8 i5])), (16, .one (li .u8 (IntKind.wrap .u8 i5))), (15, .one (li .u64 i5)), (14, .one (.osl 100003 0 0 (l6).length))] [] (by kernel_rfl) ?_
      refine SimI.guard (c := ((l6).length + 1) * 1 ≤ maxCells ∧ (l6).length + 1 ≤ maxCells) { dst := some 18, op := POp.app 100003 5 1 1 (Operand.tmp 14) (Operand.tmp 17), guard := none, hints := [] } [(18, .one (.osl 100003 (0 + 1) 0 ((l6 ++ [IntKind.wrap .u8 i5])).length))] [(100003, some (.arr 5 (codI .u8).sz (0 + 1) ((l6 ++ [IntKind.wrap .u8 i5])).length (getOf (codI .u8) (l6 ++ [IntKind.wrap .u8 i5]))))] (by kernel_rfl) (fun hc => pOp_eff (by kernel_rfl) (by kernel_rfl) (eff_appO (c := (codI .u8)) (g := 0) (l := l6) (a := IntKind.wrap .u8 i5) (by kernel_rfl) (by kernel_rfl) (by kernel_rfl) (by kernel_rfl) hc)) ?_
      refine SimI.step { dst := some 19, op := POp.b2s (Operand.tmp 18), guard := none, hints := [] } [(19, .one (ls (mkStr (l6 ++ [IntKind.wrap .u8 i5]))))] [] (by kernel_rfl) (pOp_eff (by kernel_rfl) (by kernel_rfl) (eff_b2sO (l := (l6 ++ [IntKind.wrap .u8 i5])) (k := 100003) (g := (0 + 1)) (el := 5) (by kernel_rfl) (by kernel_rfl))) ?_
      refine SimI.run 1 [(2, .one (ls (mkStr (l6 ++ [IntKind.wrap .u8 i5]))))] [] (by kernel_rfl) ?_
      refine SimI.done (by kernel_rfl) ?_
      refine SimE.thenN ?_
      refine Sim.ret ?_
      exact SimE.fin (by kernel_rfl)

def F42 (n : Nat) (a0 : Int) : Option ByteArray :=
  F42_l7 n (n + 8) a0 ([] : List Int)
theorem F42_ok (n : Nat) (a0 : Int) : ∀ r, F42 n a0 = some r → D 42 [.one (li .u64 a0)] [] = some (F42_e r) := by
  refine fn_to (D := D) (n := n + 8) (nt := 20) (rs := pc42_r) (c := pc42_c20) (L := [(0, .one (li .u64 a0))]) (M := []) (k := 0) rfl rfl rfl rfl rfl rfl rfl ?_
  unfold F42
  refine Sim.seq ?_
  refine Sim.region0 ?_
  refine SimI.run 1 [(2, .one (ls ByteArray.empty))] [] (by kernel_rfl) ?_
  refine SimI.done (by kernel_rfl) ?_
  refine SimE.thenN ?_
  refine Sim.seq ?_
  refine Sim.region0 ?_
  refine SimI.run 1 [(3, .one (lnil))] [] (by kernel_rfl) ?_
  refine SimI.done (by kernel_rfl) ?_
  refine SimE.thenN ?_
  refine Sim.seq ?_
  refine Sim.block ?_
  refine Sim.loop ?_
  refine SimL.pre (ts := [0, 3]) (os := [100003]) (ow := [(false, 3, 0, 100003, 5, 1)]) [(0, .one (li .u64 a0)), (3, .one (.osl 100003 0 0 (([] : List Int)).length))] [(100003, some (.arr 5 (codI .u8).sz 0 (([] : List Int)).length (getOf (codI .u8) ([] : List Int))))] (by kernel_rfl) (by kernel_rfl) (by kernel_rfl) ?_
  exact F42_l7_ok n (n + 8) a0 ([] : List Int)


-- 44: vedette/num.Text
def F44_e : ByteArray → PV × List Ob := fun r => (.one (ls r), [])
def F44 (n : Nat) (a0 : ByteArray) : Option ByteArray :=
  (F42 n (IntKind.wrap .u64 (a0.size : Int))).bind fun (r1 : ByteArray) =>
  if r1.size + a0.size ≤ 9223372036854775807 then
    some (r1 ++ a0)
  else none
theorem F44_ok (n : Nat) (a0 : ByteArray) : ∀ r, F44 n a0 = some r → D 44 [.one (ls a0)] [] = some (F44_e r) := by
  refine fn_to (D := D) (n := n + 8) (nt := 9) (rs := pc44_r) (c := pc44_c5) (L := [(0, .one (ls a0))]) (M := []) (k := 0) rfl rfl rfl rfl rfl rfl rfl ?_
  unfold F44
  refine Sim.seq ?_
  refine Sim.region0 ?_
  refine SimI.run 1 [(2, .one (ls ByteArray.empty))] [] (by kernel_rfl) ?_
  refine SimI.done (by kernel_rfl) ?_
  refine SimE.thenN ?_
  refine Sim.seq ?_
  refine Sim.region0 ?_
  refine SimI.run 3 [(5, .one (li .u64 (IntKind.wrap .u64 (a0.size : Int)))), (4, .one (li .i64 (a0.size : Int))), (3, .one (ls a0))] [] (by kernel_rfl) ?_
  refine SimI.bind (og := F42 n (IntKind.wrap .u64 (a0.size : Int))) { dst := some 6, op := POp.call true [[]] 42 [Operand.tmp 5], guard := none, hints := [] } (fun r1 => [(6, .one (ls r1))]) (fun r1 => []) (by kernel_rfl) (fun r1 hr => pOp_eff (by kernel_rfl) (by kernel_rfl) (eff_call (ARGS := [.one (li .u64 (IntKind.wrap .u64 (a0.size : Int)))]) (by kernel_rfl) (args_clean (by kernel_rfl) args_nil) (F42_ok n (IntKind.wrap .u64 (a0.size : Int)) r1 hr) (by kernel_rfl))) (fun r1 => ?_)
  refine SimI.run 1 [(7, .one (ls a0))] [] (by kernel_rfl) ?_
  refine SimI.guard (c := r1.size + a0.size ≤ 9223372036854775807) { dst := some 8, op := POp.prim (Prim.bin BinOp.add 9 false false) [Operand.tmp 6, Operand.tmp 7], guard := none, hints := [] } [(8, .one (ls (r1 ++ a0)))] [] (by kernel_rfl) (fun hc => pOp_eff (by kernel_rfl) (by kernel_rfl) (eff_prim (by kernel_rfl) (pr_addS _ _ _ r1 a0 hc))) ?_
  refine SimI.run 1 [(2, .one (ls (r1 ++ a0)))] [] (by kernel_rfl) ?_
  refine SimI.done (by kernel_rfl) ?_
  refine SimE.thenN ?_
  refine Sim.ret ?_
  exact SimE.fin (by kernel_rfl)


-- 68: vedette/num.Zig
def F68_e : Int → PV × List Ob := fun r => (.one (li .u64 r), [])
def F68 (n : Nat) (a0 : Int) : Option Int :=
  some (bitsI .xor .u64 (shlI .u64 (IntKind.wrap .u64 a0) 1) (IntKind.wrap .u64 (shrI .i64 a0 63)))
theorem F68_ok (n : Nat) (a0 : Int) : ∀ r, F68 n a0 = some r → D 68 [.one (li .i64 a0)] [] = some (F68_e r) := by
  refine fn_to (D := D) (n := n + 8) (nt := 10) (rs := pc68_r) (c := pc68_c5) (L := [(0, .one (li .i64 a0))]) (M := []) (k := 0) rfl rfl rfl rfl rfl rfl rfl ?_
  unfold F68
  refine Sim.seq ?_
  refine Sim.region0 ?_
  refine SimI.run 1 [(2, .one (li .u64 0))] [] (by kernel_rfl) ?_
  refine SimI.done (by kernel_rfl) ?_
  refine SimE.thenN ?_
  refine Sim.seq ?_
  refine Sim.region0 ?_
  refine SimI.run 8 [(2, .one (li .u64 (bitsI .xor .u64 (shlI .u64 (IntKind.wrap .u64 a0) 1) (IntKind.wrap .u64 (shrI .i64 a0 63))))), (9, .one (li .u64 (bitsI .xor .u64 (shlI .u64 (IntKind.wrap .u64 a0) 1) (IntKind.wrap .u64 (shrI .i64 a0 63))))), (8, .one (li .u64 (IntKind.wrap .u64 (shrI .i64 a0 63)))), (7, .one (li .i64 (shrI .i64 a0 63))), (6, .one (li .i64 a0)), (5, .one (li .u64 (shlI .u64 (IntKind.wrap .u64 a0) 1))), (4, .one (li .u64 (IntKind.wrap .u64 a0))), (3, .one (li .i64 a0))] [] (by kernel_rfl) ?_
  refine SimI.done (by kernel_rfl) ?_
  refine SimE.thenN ?_
  refine Sim.ret ?_
  exact SimE.fin (by kernel_rfl)


-- 45: vedette/num.Int
def F45_e : ByteArray → PV × List Ob := fun r => (.one (ls r), [])
def F45 (n : Nat) (a0 : Int) : Option ByteArray :=
  (F68 n a0).bind fun (r1 : Int) =>
  (F42 n r1).bind fun (r2 : ByteArray) =>
  some r2
theorem F45_ok (n : Nat) (a0 : Int) : ∀ r, F45 n a0 = some r → D 45 [.one (li .i64 a0)] [] = some (F45_e r) := by
  refine fn_to (D := D) (n := n + 8) (nt := 6) (rs := pc45_r) (c := pc45_c5) (L := [(0, .one (li .i64 a0))]) (M := []) (k := 0) rfl rfl rfl rfl rfl rfl rfl ?_
  unfold F45
  refine Sim.seq ?_
  refine Sim.region0 ?_
  refine SimI.run 1 [(2, .one (ls ByteArray.empty))] [] (by kernel_rfl) ?_
  refine SimI.done (by kernel_rfl) ?_
  refine SimE.thenN ?_
  refine Sim.seq ?_
  refine Sim.region0 ?_
  refine SimI.run 1 [(3, .one (li .i64 a0))] [] (by kernel_rfl) ?_
  refine SimI.bind (og := F68 n a0) { dst := some 4, op := POp.call true [[]] 68 [Operand.tmp 3], guard := none, hints := [] } (fun r1 => [(4, .one (li .u64 r1))]) (fun r1 => []) (by kernel_rfl) (fun r1 hr => pOp_eff (by kernel_rfl) (by kernel_rfl) (eff_call (ARGS := [.one (li .i64 a0)]) (by kernel_rfl) (args_clean (by kernel_rfl) args_nil) (F68_ok n a0 r1 hr) (by kernel_rfl))) (fun r1 => ?_)
  refine SimI.bind (og := F42 n r1) { dst := some 5, op := POp.call true [[]] 42 [Operand.tmp 4], guard := none, hints := [] } (fun r2 => [(5, .one (ls r2))]) (fun r2 => []) (by kernel_rfl) (fun r2 hr => pOp_eff (by kernel_rfl) (by kernel_rfl) (eff_call (ARGS := [.one (li .u64 r1)]) (by kernel_rfl) (args_clean (by kernel_rfl) args_nil) (F42_ok n r1 r2 hr) (by kernel_rfl))) (fun r2 => ?_)
  refine SimI.run 1 [(2, .one (ls r2))] [] (by kernel_rfl) ?_
  refine SimI.done (by kernel_rfl) ?_
  refine SimE.thenN ?_
  refine Sim.ret ?_
  exact SimE.fin (by kernel_rfl)


-- 56: vedette/cmd.parts
def F56s0_e (a0 : Command) : Nat → PV × List Ob := fun r =>
    if r = 0 then (.one (.view 1 0 fun _ => []), [.cells (Command.cells a0)]) else
    if r = 1 then (.one (.csl 1000001 1 0 2), [.cells (Command.cells a0), .cells [.ptr 1000000 4, .ptr 1000000 5]]) else
    if r = 2 then (.one (.csl 1000001 1 0 3), [.cells (Command.cells a0), .cells [.ptr 1000000 1, .ptr 1000000 4, .ptr 1000000 5]]) else
    if r = 3 then (.one (.csl 1000001 1 0 2), [.cells (Command.cells a0), .cells [.ptr 1000000 1, .ptr 1000000 2]]) else
    if r = 4 then (.one (.csl 1000001 1 0 1), [.cells (Command.cells a0), .cells [.ptr 1000000 1]]) else
    if r = 5 then (.one (.csl 1000001 1 0 2), [.cells (Command.cells a0), .cells [.ptr 1000000 2, .ptr 1000000 3]]) else
    (.one (.csl 1000001 1 0 4), [.cells (Command.cells a0), .cells [.ptr 1000000 18, .ptr 1000000 19, .ptr 1000000 20, .ptr 1000000 21]])
theorem F56s0_e_0 (a0 : Command) (r : Nat) (h : r = 0) : F56s0_e a0 r = (.one (.view 1 0 fun _ => []), [.cells (Command.cells a0)]) := by
  unfold F56s0_e; simp only [h]; rfl
theorem F56s0_e_1 (a0 : Command) (r : Nat) (h : r = 1) : F56s0_e a0 r = (.one (.csl 1000001 1 0 2), [.cells (Command.cells a0), .cells [.ptr 1000000 4, .ptr 1000000 5]]) := by
  unfold F56s0_e; simp only [h]; rfl
theorem F56s0_e_2 (a0 : Command) (r : Nat) (h : r = 2) : F56s0_e a0 r = (.one (.csl 1000001 1 0 3), [.cells (Command.cells a0), .cells [.ptr 1000000 1, .ptr 1000000 4, .ptr 1000000 5]]) := by
  unfold F56s0_e; simp only [h]; rfl
theorem F56s0_e_3 (a0 : Command) (r : Nat) (h : r = 3) : F56s0_e a0 r = (.one (.csl 1000001 1 0 2), [.cells (Command.cells a0), .cells [.ptr 1000000 1, .ptr 1000000 2]]) := by
  unfold F56s0_e; simp only [h]; rfl
theorem F56s0_e_4 (a0 : Command) (r : Nat) (h : r = 4) : F56s0_e a0 r = (.one (.csl 1000001 1 0 1), [.cells (Command.cells a0), .cells [.ptr 1000000 1]]) := by
  unfold F56s0_e; simp only [h]; rfl
theorem F56s0_e_5 (a0 : Command) (r : Nat) (h : r = 5) : F56s0_e a0 r = (.one (.csl 1000001 1 0 2), [.cells (Command.cells a0), .cells [.ptr 1000000 2, .ptr 1000000 3]]) := by
  unfold F56s0_e; simp only [h]; rfl
theorem F56s0_e_6 (a0 : Command) (r : Nat) (h : r = 6) : F56s0_e a0 r = (.one (.csl 1000001 1 0 4), [.cells (Command.cells a0), .cells [.ptr 1000000 18, .ptr 1000000 19, .ptr 1000000 20, .ptr 1000000 21]]) := by
  unfold F56s0_e; simp only [h]; rfl
def F56s0_j1 (n : Nat) : Option Nat :=
    some 6
theorem F56s0_j1_ok (n : Nat) (a0 : Command) : Sim Try.prog D (n + 8) pc56_c30 [(0, .one (.ptr 1000000 0))] [(1000000, some (.cells (Command.cells a0)))] (F56s0_j1 n) (QB 0 (QT Try.prog D (n + 8) pc56_c48 (QF false pc56_r 1 (F56s0_e a0)))) := by
    unfold F56s0_j1
    refine Sim.seq ?_
    refine Sim.region [(0, .one (.ptr 1000000 0))] [(1000000, some (.cells (Command.cells a0)))] (by kernel_rfl) ?_
    refine SimI.run 18 [(2, .one (.csl 75 1 0 4)), (75, .one (.csl 75 1 0 4)), (74, .one (.ptr 1000000 21)), (73, .one (.ptr 1000000 18)), (72, .one (.ptr 1000000 0)), (71, .one (.ptr 1000000 0)), (70, .one (.ptr 1000000 20)), (69, .one (.ptr 1000000 18)), (68, .one (.ptr 1000000 0)), (67, .one (.ptr 1000000 0)), (66, .one (.ptr 1000000 19)), (65, .one (.ptr 1000000 18)), (64, .one (.ptr 1000000 0)), (63, .one (.ptr 1000000 0)), (62, .one (.ptr 1000000 18)), (61, .one (.ptr 1000000 18)), (60, .one (.ptr 1000000 0)), (59, .one (.ptr 1000000 0))] [(75, some (.cells [.ptr 1000000 18, .ptr 1000000 19, .ptr 1000000 20, .ptr 1000000 21]))] (by kernel_rfl) ?_
    refine SimI.done (by kernel_rfl) ?_
    refine SimE.thenN ?_
    refine Sim.ret ?_
    refine SimE.blockR ?_
    refine SimE.thenR ?_
    exact SimE.fin (by kernel_rfl)

def F56s0 (n : Nat) (a0 : Command) : Option Nat :=
  if a0.Kind == 1 then
    some 1
  else
    if a0.Kind == 2 then
      some 2
    else
      if a0.Kind == 3 then
        some 3
      else
        if a0.Kind == 4 then
          some 4
        else
          if a0.Kind == 5 then
            some 5
          else
            if a0.Kind == 6 then
              if a0.Kind == 6 then
                F56s0_j1 n
              else
                some 0
            else
              if a0.Kind == 7 then
                F56s0_j1 n
              else
                some 0
theorem F56s0_ok (n : Nat) (a0 : Command) : ∀ r, F56s0 n a0 = some r → D 56 [.one (.ptr 1000000 0)] [.cells (Command.cells a0)] = some ((F56s0_e a0) r) := by
  refine fn_to (D := D) (n := n + 8) (nt := 76) (rs := pc56_r) (c := pc56_c50) (L := [(0, .one (.ptr 1000000 0))]) (M := [(1000000, some (.cells (Command.cells a0)))]) (k := 1) rfl rfl rfl rfl rfl rfl rfl ?_
  unfold F56s0
  refine Sim.seq ?_
  refine Sim.region0 ?_
  refine SimI.run 1 [(2, .one (lnil))] [] (by kernel_rfl) ?_
  refine SimI.done (by kernel_rfl) ?_
  refine SimE.thenN ?_
  refine Sim.seq ?_
  refine Sim.seq ?_
  refine Sim.region0 ?_
  refine SimI.run 4 [(6, .one (li .i64 a0.Kind)), (5, .one (.ptr 1000000 0)), (4, .one (.ptr 1000000 0)), (3, .one (.ptr 1000000 0))] [] (by kernel_rfl) ?_
  refine SimI.done (by kernel_rfl) ?_
  refine SimE.thenN ?_
  refine Sim.block ?_
  refine Sim.seq ?_
  refine Sim.region0 ?_
  refine SimI.run 2 [(7, .one (lb (a0.Kind == 1))), (8, .one (lb (a0.Kind == 1)))] [] (by kernel_rfl) ?_
  refine SimI.done (by kernel_rfl) ?_
  refine SimE.thenN ?_
  refine Sim.cond (a0.Kind == 1) (by kernel_rfl) ?_ ?_
  · refine Sim.seq ?_
    refine Sim.region0 ?_
    refine SimI.run 10 [(2, .one (.csl 17 1 0 2)), (17, .one (.csl 17 1 0 2)), (16, .one (.ptr 1000000 5)), (15, .one (.ptr 1000000 4)), (14, .one (.ptr 1000000 0)), (13, .one (.ptr 1000000 0)), (12, .one (.ptr 1000000 4)), (11, .one (.ptr 1000000 4)), (10, .one (.ptr 1000000 0)), (9, .one (.ptr 1000000 0))] [(17, some (.cells [.ptr 1000000 4, .ptr 1000000 5]))] (by kernel_rfl) ?_
    refine SimI.done (by kernel_rfl) ?_
    refine SimE.thenN ?_
    refine Sim.ret ?_
    refine SimE.blockR ?_
    refine SimE.thenR ?_
    exact SimE.fin (by kernel_rfl)
  · refine Sim.seq ?_
    refine Sim.region0 ?_
    refine SimI.run 2 [(18, .one (lb (a0.Kind == 2))), (19, .one (lb (a0.Kind == 2)))] [] (by kernel_rfl) ?_
    refine SimI.done (by kernel_rfl) ?_
    refine SimE.thenN ?_
    refine Sim.cond (a0.Kind == 2) (by kernel_rfl) ?_ ?_
    · refine Sim.seq ?_
      refine Sim.region0 ?_
      refine SimI.run 13 [(2, .one (.csl 31 1 0 3)), (31, .one (.csl 31 1 0 3)), (30, .one (.ptr 1000000 5)), (29, .one (.ptr 1000000 4)), (28, .one (.ptr 1000000 0)), (27, .one (.ptr 1000000 0)), (26, .one (.ptr 1000000 4)), (25, .one (.ptr 1000000 4)), (24, .one (.ptr 1000000 0)), (23, .one (.ptr 1000000 0)), (22, .one (.ptr 1000000 1)), (21, .one (.ptr 1000000 0)), (20, .one (.ptr 1000000 0))] [(31, some (.cells [.ptr 1000000 1, .ptr 1000000 4, .ptr 1000000 5]))] (by kernel_rfl) ?_
      refine SimI.done (by kernel_rfl) ?_
      refine SimE.thenN ?_
      refine Sim.ret ?_
      refine SimE.blockR ?_
      refine SimE.thenR ?_
      exact SimE.fin (by kernel_rfl)
    · refine Sim.seq ?_
      refine Sim.region0 ?_
      refine SimI.run 2 [(32, .one (lb (a0.Kind == 3))), (33, .one (lb (a0.Kind == 3)))] [] (by kernel_rfl) ?_
      refine SimI.done (by kernel_rfl) ?_
      refine SimE.thenN ?_
      refine Sim.cond (a0.Kind == 3) (by kernel_rfl) ?_ ?_
      · refine Sim.seq ?_
        refine Sim.region0 ?_
        refine SimI.run 8 [(2, .one (.csl 40 1 0 2)), (40, .one (.csl 40 1 0 2)), (39, .one (.ptr 1000000 2)), (38, .one (.ptr 1000000 0)), (37, .one (.ptr 1000000 0)), (36, .one (.ptr 1000000 1)), (35, .one (.ptr 1000000 0)), (34, .one (.ptr 1000000 0))] [(40, some (.cells [.ptr 1000000 1, .ptr 1000000 2]))] (by kernel_rfl) ?_
        refine SimI.done (by kernel_rfl) ?_
        refine SimE.thenN ?_
        refine Sim.ret ?_
        refine SimE.blockR ?_
        refine SimE.thenR ?_
        exact SimE.fin (by kernel_rfl)
      · refine Sim.seq ?_
        refine Sim.region0 ?_
        refine SimI.run 2 [(41, .one (lb (a0.Kind == 4))), (42, .one (lb (a0.Kind == 4)))] [] (by kernel_rfl) ?_
        refine SimI.done (by kernel_rfl) ?_
        refine SimE.thenN ?_
        refine Sim.cond (a0.Kind == 4) (by kernel_rfl) ?_ ?_
        · refine Sim.seq ?_
          refine Sim.region0 ?_
          refine SimI.run 5 [(2, .one (.csl 46 1 0 1)), (46, .one (.csl 46 1 0 1)), (45, .one (.ptr 1000000 1)), (44, .one (.ptr 1000000 0)), (43, .one (.ptr 1000000 0))] [(46, some (.cells [.ptr 1000000 1]))] (by kernel_rfl) ?_
          refine SimI.done (by kernel_rfl) ?_
          refine SimE.thenN ?_
          refine Sim.ret ?_
          refine SimE.blockR ?_
          refine SimE.thenR ?_
          exact SimE.fin (by kernel_rfl)
        · refine Sim.seq ?_
          refine Sim.region0 ?_
          refine SimI.run 2 [(47, .one (lb (a0.Kind == 5))), (48, .one (lb (a0.Kind == 5)))] [] (by kernel_rfl) ?_
          refine SimI.done (by kernel_rfl) ?_
          refine SimE.thenN ?_
          refine Sim.cond (a0.Kind == 5) (by kernel_rfl) ?_ ?_
          · refine Sim.seq ?_
            refine Sim.region0 ?_
            refine SimI.run 8 [(2, .one (.csl 55 1 0 2)), (55, .one (.csl 55 1 0 2)), (54, .one (.ptr 1000000 3)), (53, .one (.ptr 1000000 0)), (52, .one (.ptr 1000000 0)), (51, .one (.ptr 1000000 2)), (50, .one (.ptr 1000000 0)), (49, .one (.ptr 1000000 0))] [(55, some (.cells [.ptr 1000000 2, .ptr 1000000 3]))] (by kernel_rfl) ?_
            refine SimI.done (by kernel_rfl) ?_
            refine SimE.thenN ?_
            refine Sim.ret ?_
            refine SimE.blockR ?_
            refine SimE.thenR ?_
            exact SimE.fin (by kernel_rfl)
          · refine Sim.seq ?_
            refine Sim.seq ?_
            refine Sim.region0 ?_
            refine SimI.run 2 [(56, .one (lb (a0.Kind == 6))), (57, .one (lb (a0.Kind == 6)))] [] (by kernel_rfl) ?_
            refine SimI.done (by kernel_rfl) ?_
            refine SimE.thenN ?_
            refine Sim.cond (a0.Kind == 6) (by kernel_rfl) ?_ ?_
            · refine Sim.skip ?_
              refine SimE.thenN ?_
              refine Sim.cond (a0.Kind == 6) (by kernel_rfl) ?_ ?_
              · refine Sim.pre (ts := [0]) (os := [1000000]) (ow := []) [(0, .one (.ptr 1000000 0))] [(1000000, some (.cells (Command.cells a0)))] (by kernel_rfl) (by kernel_rfl) (by kernel_rfl) ?_
                exact F56s0_j1_ok n a0
              · refine Sim.skip ?_
                refine SimE.blockN ?_
                refine SimE.thenN ?_
                refine Sim.seq ?_
                refine Sim.region0 ?_
                refine SimI.run 1 [(2, .one (lnil))] [] (by kernel_rfl) ?_
                refine SimI.done (by kernel_rfl) ?_
                refine SimE.thenN ?_
                refine Sim.ret ?_
                exact SimE.fin (by kernel_rfl)
            · refine Sim.region0 ?_
              refine SimI.run 2 [(56, .one (lb (a0.Kind == 7))), (58, .one (lb (a0.Kind == 7)))] [] (by kernel_rfl) ?_
              refine SimI.done (by kernel_rfl) ?_
              refine SimE.thenN ?_
              refine Sim.cond (a0.Kind == 7) (by kernel_rfl) ?_ ?_
              · refine Sim.pre (ts := [0]) (os := [1000000]) (ow := []) [(0, .one (.ptr 1000000 0))] [(1000000, some (.cells (Command.cells a0)))] (by kernel_rfl) (by kernel_rfl) (by kernel_rfl) ?_
                exact F56s0_j1_ok n a0
              · refine Sim.skip ?_
                refine SimE.blockN ?_
                refine SimE.thenN ?_
                refine Sim.seq ?_
                refine Sim.region0 ?_
                refine SimI.run 1 [(2, .one (lnil))] [] (by kernel_rfl) ?_
                refine SimI.done (by kernel_rfl) ?_
                refine SimE.thenN ?_
                refine Sim.ret ?_
                exact SimE.fin (by kernel_rfl)


-- 57: vedette/cmd.values
def F57s0_e (a0 : Command) : Nat → PV × List Ob := fun r =>
    if r = 0 then (.one (.view 1 0 fun _ => []), [.cells (Command.cells a0)]) else
    if r = 1 then (.one (.csl 1000001 1 0 4), [.cells (Command.cells a0), .cells [.ptr 1000000 6, .ptr 1000000 8, .ptr 1000000 10, .ptr 1000000 12]]) else
    (.one (.csl 1000001 1 0 1), [.cells (Command.cells a0), .cells [.ptr 1000000 14]])
theorem F57s0_e_0 (a0 : Command) (r : Nat) (h : r = 0) : F57s0_e a0 r = (.one (.view 1 0 fun _ => []), [.cells (Command.cells a0)]) := by
  unfold F57s0_e; simp only [h]; rfl
theorem F57s0_e_1 (a0 : Command) (r : Nat) (h : r = 1) : F57s0_e a0 r = (.one (.csl 1000001 1 0 4), [.cells (Command.cells a0), .cells [.ptr 1000000 6, .ptr 1000000 8, .ptr 1000000 10, .ptr 1000000 12]]) := by
  unfold F57s0_e; simp only [h]; rfl
theorem F57s0_e_2 (a0 : Command) (r : Nat) (h : r = 2) : F57s0_e a0 r = (.one (.csl 1000001 1 0 1), [.cells (Command.cells a0), .cells [.ptr 1000000 14]]) := by
  unfold F57s0_e; simp only [h]; rfl
def F57s0 (n : Nat) (a0 : Command) : Option Nat :=
  if a0.Kind == 1 then
    some 1
  else
    if a0.Kind == 3 then
      some 2
    else
      some 0
theorem F57s0_ok (n : Nat) (a0 : Command) : ∀ r, F57s0 n a0 = some r → D 57 [.one (.ptr 1000000 0)] [.cells (Command.cells a0)] = some ((F57s0_e a0) r) := by
  refine fn_to (D := D) (n := n + 8) (nt := 32) (rs := pc57_r) (c := pc57_c22) (L := [(0, .one (.ptr 1000000 0))]) (M := [(1000000, some (.cells (Command.cells a0)))]) (k := 1) rfl rfl rfl rfl rfl rfl rfl ?_
  unfold F57s0
  refine Sim.seq ?_
  refine Sim.region0 ?_
  refine SimI.run 1 [(2, .one (lnil))] [] (by kernel_rfl) ?_
  refine SimI.done (by kernel_rfl) ?_
  refine SimE.thenN ?_
  refine Sim.seq ?_
  refine Sim.seq ?_
  refine Sim.region0 ?_
  refine SimI.run 4 [(6, .one (li .i64 a0.Kind)), (5, .one (.ptr 1000000 0)), (4, .one (.ptr 1000000 0)), (3, .one (.ptr 1000000 0))] [] (by kernel_rfl) ?_
  refine SimI.done (by kernel_rfl) ?_
  refine SimE.thenN ?_
  refine Sim.block ?_
  refine Sim.seq ?_
  refine Sim.region0 ?_
  refine SimI.run 2 [(7, .one (lb (a0.Kind == 1))), (8, .one (lb (a0.Kind == 1)))] [] (by kernel_rfl) ?_
  refine SimI.done (by kernel_rfl) ?_
  refine SimE.thenN ?_
  refine Sim.cond (a0.Kind == 1) (by kernel_rfl) ?_ ?_
  · refine Sim.seq ?_
    refine Sim.region0 ?_
    refine SimI.run 18 [(2, .one (.csl 25 1 0 4)), (25, .one (.csl 25 1 0 4)), (24, .one (.ptr 1000000 12)), (23, .one (.ptr 1000000 6)), (22, .one (.ptr 1000000 0)), (21, .one (.ptr 1000000 0)), (20, .one (.ptr 1000000 10)), (19, .one (.ptr 1000000 6)), (18, .one (.ptr 1000000 0)), (17, .one (.ptr 1000000 0)), (16, .one (.ptr 1000000 8)), (15, .one (.ptr 1000000 6)), (14, .one (.ptr 1000000 0)), (13, .one (.ptr 1000000 0)), (12, .one (.ptr 1000000 6)), (11, .one (.ptr 1000000 6)), (10, .one (.ptr 1000000 0)), (9, .one (.ptr 1000000 0))] [(25, some (.cells [.ptr 1000000 6, .ptr 1000000 8, .ptr 1000000 10, .ptr 1000000 12]))] (by kernel_rfl) ?_
    refine SimI.done (by kernel_rfl) ?_
    refine SimE.thenN ?_
    refine Sim.ret ?_
    refine SimE.blockR ?_
    refine SimE.thenR ?_
    exact SimE.fin (by kernel_rfl)
  · refine Sim.seq ?_
    refine Sim.region0 ?_
    refine SimI.run 2 [(26, .one (lb (a0.Kind == 3))), (27, .one (lb (a0.Kind == 3)))] [] (by kernel_rfl) ?_
    refine SimI.done (by kernel_rfl) ?_
    refine SimE.thenN ?_
    refine Sim.cond (a0.Kind == 3) (by kernel_rfl) ?_ ?_
    · refine Sim.seq ?_
      refine Sim.region0 ?_
      refine SimI.run 5 [(2, .one (.csl 31 1 0 1)), (31, .one (.csl 31 1 0 1)), (30, .one (.ptr 1000000 14)), (29, .one (.ptr 1000000 0)), (28, .one (.ptr 1000000 0))] [(31, some (.cells [.ptr 1000000 14]))] (by kernel_rfl) ?_
      refine SimI.done (by kernel_rfl) ?_
      refine SimE.thenN ?_
      refine Sim.ret ?_
      refine SimE.blockR ?_
      refine SimE.thenR ?_
      exact SimE.fin (by kernel_rfl)
    · refine Sim.skip ?_
      refine SimE.blockN ?_
      refine SimE.thenN ?_
      refine Sim.seq ?_
      refine Sim.region0 ?_
      refine SimI.run 1 [(2, .one (lnil))] [] (by kernel_rfl) ?_
      refine SimI.done (by kernel_rfl) ?_
      refine SimE.thenN ?_
      refine Sim.ret ?_
      exact SimE.fin (by kernel_rfl)


-- 34: vedette/cmd.Bytes
def F34_e : (ByteArray × Int) → PV × List Ob := fun r => (.tup [.one (ls r.1), .one (li .i64 r.2)], [])
def F34_j21 (n : Nat) (a0 : Command) (s20 : ByteArray) : Option (ByteArray × Int) :=
    (F57s0 n a0).bind fun (r22 : Nat) =>
    if r22 = 0 then
      some (s20, 0)
    else
      if r22 = 1 then
        (F44 n a0.F.a0.Text).bind fun (r25 : ByteArray) =>
        (F45 n a0.F.a0.N).bind fun (r26 : ByteArray) =>
        if r25.size + r26.size ≤ 9223372036854775807 then
          if s20.size + (r25 ++ r26).size ≤ 9223372036854775807 then
            (F44 n a0.F.a1.Text).bind fun (r27 : ByteArray) =>
            (F45 n a0.F.a1.N).bind fun (r28 : ByteArray) =>
            if r27.size + r28.size ≤ 9223372036854775807 then
              if (s20 ++ (r25 ++ r26)).size + (r27 ++ r28).size ≤ 9223372036854775807 then
                (F44 n a0.F.a2.Text).bind fun (r29 : ByteArray) =>
                (F45 n a0.F.a2.N).bind fun (r30 : ByteArray) =>
                if r29.size + r30.size ≤ 9223372036854775807 then
                  if ((s20 ++ (r25 ++ r26)) ++ (r27 ++ r28)).size + (r29 ++ r30).size ≤ 9223372036854775807 then
                    (F44 n a0.F.a3.Text).bind fun (r31 : ByteArray) =>
                    (F45 n a0.F.a3.N).bind fun (r32 : ByteArray) =>
                    if r31.size + r32.size ≤ 9223372036854775807 then
                      if (((s20 ++ (r25 ++ r26)) ++ (r27 ++ r28)) ++ (r29 ++ r30)).size + (r31 ++ r32).size ≤ 9223372036854775807 then
                        some ((((s20 ++ (r25 ++ r26)) ++ (r27 ++ r28)) ++ (r29 ++ r30)) ++ (r31 ++ r32), 0)
                      else none
                    else none
                  else none
                else none
              else none
            else none
          else none
        else none
      else
        if r22 = 2 then
          (F44 n a0.Value.Text).bind fun (r23 : ByteArray) =>
          (F45 n a0.Value.N).bind fun (r24 : ByteArray) =>
          if r23.size + r24.size ≤ 9223372036854775807 then
            if s20.size + (r23 ++ r24).size ≤ 9223372036854775807 then
              some (s20 ++ (r23 ++ r24), 0)
            else none
          else none
        else
          none
theorem F34_j21_ok (n : Nat) (a0 : Command) (s20 : ByteArray) : Sim Try.prog D (n + 8) pc34_c45 [(1, .one (.ptr 1 0)), (4, .one (ls s20))] [(1, some (.cells (Command.cells a0)))] (F34_j21 n a0 s20) (QF false pc34_r 0 F34_e) := by
    unfold F34_j21
    refine Sim.seq ?_
    refine Sim.seq ?_
    refine Sim.region [(1, .one (.ptr 1 0)), (4, .one (ls s20))] [(1, some (.cells (Command.cells a0)))] (by kernel_rfl) ?_
    refine SimI.open (og := F57s0 n a0) (fun r22 hr22 => ?_)
    refine SimI.ite (c := r22 = 0) (fun cr22 => ?_) (fun _ => ?_)
    · refine SimI.step { dst := some 36, op := POp.gcall false false [1, 300000, 300001, 300002, 300003, 300004, 300005, 300006, 300007] [[]] 57 [Operand.tmp 1], guard := none, hints := [] } [(36, .one (.view 1 0 fun _ => []))] [(1, some (.cells (Command.cells a0)))] (by kernel_rfl) (pOp_eff (by kernel_rfl) (by kernel_rfl) (eff_gcall (ks := [1]) (rks := []) (new := []) (ARGS := [.one (.ptr 1 0)]) (args1 := [.one (.ptr 1 0)]) (args2 := [.one (.ptr 1000000 0)]) (os := [.cells (Command.cells a0)]) (os' := [.cells (Command.cells a0)]) (os1 := [.cells (Command.cells a0)]) (res := .one (.view 1 0 fun _ => [])) (res1 := .one (.view 1 0 fun _ => [])) (r := .one (.view 1 0 fun _ => [])) (N := [(1, some (.cells (Command.cells a0)))]) (by kernel_rfl) (readA_ow (readA_keep (by kernel_rfl) (readA_nil))) (by kernel_rfl) (by kernel_rfl) (by kernel_rfl) (by kernel_rfl) ((F57s0_ok n a0 r22 hr22).trans (congrArg some (F57s0_e_0 a0 r22 cr22))) (by kernel_rfl) (by kernel_rfl) (by kernel_rfl) rfl (by kernel_rfl) (by kernel_rfl) (by kernel_rfl))) ?_
      refine SimI.run 2 [(38, .one (li .i64 0)), (37, .one (li .i64 0))] [] (by kernel_rfl) ?_
      refine SimI.done (by kernel_rfl) ?_
      refine SimE.thenN ?_
      refine Sim.block ?_
      refine Sim.loop ?_
      refine SimL.succ ?_
      refine Sim.seq ?_
      refine Sim.region [(4, .one (ls s20)), (36, .one (.view 1 0 fun _ => [])), (37, .one (li .i64 0)), (38, .one (li .i64 0))] [] (by kernel_rfl) ?_
      refine SimI.run 1 [(39, .one (lb false))] [] (by kernel_rfl) ?_
      refine SimI.done (by kernel_rfl) ?_
      refine SimE.thenN ?_
      refine Sim.seq ?_
      refine Sim.condF (by kernel_rfl) ?_
      refine Sim.exit ?_
      refine SimE.thenX ?_
      refine SimE.loopX ?_
      refine SimE.blockX ?_
      refine SimE.thenN ?_
      refine Sim.seq ?_
      refine Sim.region0 ?_
      refine SimI.run 3 [(3, .one (li .i64 0)), (2, .one (ls s20)), (56, .one (ls s20))] [] (by kernel_rfl) ?_
      refine SimI.done (by kernel_rfl) ?_
      refine SimE.thenN ?_
      refine Sim.ret ?_
      exact SimE.fin (by kernel_rfl)
    · refine SimI.ite (c := r22 = 1) (fun cr22 => ?_) (fun _ => ?_)
      · refine SimI.step { dst := some 36, op := POp.gcall false false [1, 300000, 300001, 300002, 300003, 300004, 300005, 300006, 300007] [[]] 57 [Operand.tmp 1], guard := none, hints := [] } [(36, .one (.csl 300000 1 0 4))] [(1, some (.cells (Command.cells a0))), (300000, some (.cells [.ptr 1 6, .ptr 1 8, .ptr 1 10, .ptr 1 12]))] (by kernel_rfl) (pOp_eff (by kernel_rfl) (by kernel_rfl) (eff_gcall (ks := [1]) (rks := []) (new := [300000]) (ARGS := [.one (.ptr 1 0)]) (args1 := [.one (.ptr 1 0)]) (args2 := [.one (.ptr 1000000 0)]) (os := [.cells (Command.cells a0)]) (os' := [.cells (Command.cells a0), .cells [.ptr 1000000 6, .ptr 1000000 8, .ptr 1000000 10, .ptr 1000000 12]]) (os1 := [.cells (Command.cells a0), .cells [.ptr 1000000 6, .ptr 1000000 8, .ptr 1000000 10, .ptr 1000000 12]]) (res := .one (.csl 1000001 1 0 4)) (res1 := .one (.csl 1000001 1 0 4)) (r := .one (.csl 300000 1 0 4)) (N := [(1, some (.cells (Command.cells a0))), (300000, some (.cells [.ptr 1 6, .ptr 1 8, .ptr 1 10, .ptr 1 12]))]) (by kernel_rfl) (readA_ow (readA_keep (by kernel_rfl) (readA_nil))) (by kernel_rfl) (by kernel_rfl) (by kernel_rfl) (by kernel_rfl) ((F57s0_ok n a0 r22 hr22).trans (congrArg some (F57s0_e_1 a0 r22 cr22))) (by kernel_rfl) (by kernel_rfl) (by kernel_rfl) rfl (by kernel_rfl) (by kernel_rfl) (by kernel_rfl))) ?_
        refine SimI.run 2 [(38, .one (li .i64 0)), (37, .one (li .i64 4))] [] (by kernel_rfl) ?_
        refine SimI.done (by kernel_rfl) ?_
        refine SimE.thenN ?_
        refine Sim.block ?_
        refine Sim.loop ?_
        refine SimL.succ ?_
        refine Sim.seq ?_
        refine Sim.region [(4, .one (ls s20)), (36, .one (.csl 300000 1 0 4)), (37, .one (li .i64 4)), (38, .one (li .i64 0))] [(1, some (.cells (Command.cells a0))), (300000, some (.cells [.ptr 1 6, .ptr 1 8, .ptr 1 10, .ptr 1 12]))] (by kernel_rfl) ?_
        refine SimI.run 1 [(39, .one (lb true))] [] (by kernel_rfl) ?_
        refine SimI.done (by kernel_rfl) ?_
        refine SimE.thenN ?_
        refine Sim.seq ?_
        refine Sim.condT (by kernel_rfl) ?_
        refine Sim.skip ?_
        refine SimE.thenN ?_
        refine Sim.seq ?_
        refine Sim.block ?_
        refine Sim.seq ?_
        refine Sim.region0 ?_
        refine SimI.run 3 [(8, .one (.ptr 1 6)), (41, .one (.ptr 1 6)), (40, .one (.ptr 300000 0))] [] (by kernel_rfl) ?_
        refine SimI.done (by kernel_rfl) ?_
        refine SimE.thenN ?_
        refine Sim.region0 ?_
        refine SimI.run 5 [(46, .one (ls a0.F.a0.Text)), (45, .one (.ptr 1 7)), (44, .one (.ptr 1 6)), (43, .one (.ptr 1 6)), (42, .one (ls s20))] [] (by kernel_rfl) ?_
        refine SimI.bind (og := F44 n a0.F.a0.Text) { dst := some 47, op := POp.call false [[]] 44 [Operand.tmp 46], guard := none, hints := [(46, Hint.imm)] } (fun r25 => [(47, .one (ls r25))]) (fun r25 => []) (by kernel_rfl) (fun r25 hr => pOp_eff (by kernel_rfl) (by kernel_rfl) (eff_call (ARGS := [.one (ls a0.F.a0.Text)]) (by kernel_rfl) (args_clean (by kernel_rfl) args_nil) (F44_ok n a0.F.a0.Text r25 hr) (by kernel_rfl))) (fun r25 => ?_)
        refine SimI.run 4 [(51, .one (li .i64 a0.F.a0.N)), (50, .one (.ptr 1 6)), (49, .one (.ptr 1 6)), (48, .one (.ptr 1 6))] [] (by kernel_rfl) ?_
        refine SimI.bind (og := F45 n a0.F.a0.N) { dst := some 52, op := POp.call false [[]] 45 [Operand.tmp 51], guard := none, hints := [(51, Hint.imm)] } (fun r26 => [(52, .one (ls r26))]) (fun r26 => []) (by kernel_rfl) (fun r26 hr => pOp_eff (by kernel_rfl) (by kernel_rfl) (eff_call (ARGS := [.one (li .i64 a0.F.a0.N)]) (by kernel_rfl) (args_clean (by kernel_rfl) args_nil) (F45_ok n a0.F.a0.N r26 hr) (by kernel_rfl))) (fun r26 => ?_)
        refine SimI.guard (c := r25.size + r26.size ≤ 9223372036854775807) { dst := some 53, op := POp.prim (Prim.bin BinOp.add 9 false false) [Operand.tmp 47, Operand.tmp 52], guard := none, hints := [(47, Hint.imm), (52, Hint.imm)] } [(53, .one (ls (r25 ++ r26)))] [] (by kernel_rfl) (fun hc => pOp_eff (by kernel_rfl) (by kernel_rfl) (eff_prim (by kernel_rfl) (pr_addS _ _ _ r25 r26 hc))) ?_
        refine SimI.guard (c := s20.size + (r25 ++ r26).size ≤ 9223372036854775807) { dst := some 54, op := POp.prim (Prim.bin BinOp.add 9 false false) [Operand.tmp 42, Operand.tmp 53], guard := none, hints := [(42, Hint.imm), (53, Hint.imm)] } [(54, .one (ls (s20 ++ (r25 ++ r26))))] [] (by kernel_rfl) (fun hc => pOp_eff (by kernel_rfl) (by kernel_rfl) (eff_prim (by kernel_rfl) (pr_addS _ _ _ s20 (r25 ++ r26) hc))) ?_
        refine SimI.run 1 [(4, .one (ls (s20 ++ (r25 ++ r26))))] [] (by kernel_rfl) ?_
        refine SimI.done (by kernel_rfl) ?_
        refine SimE.blockN ?_
        refine SimE.thenN ?_
        refine Sim.region0 ?_
        refine SimI.run 2 [(38, .one (li .i64 1)), (55, .one (li .i64 1))] [] (by kernel_rfl) ?_
        refine SimI.done (by kernel_rfl) ?_
        refine SimE.loopN ?_
        refine SimL.succ ?_
        refine Sim.seq ?_
        refine Sim.region [(4, .one (ls (s20 ++ (r25 ++ r26)))), (36, .one (.csl 300000 1 0 4)), (37, .one (li .i64 4)), (38, .one (li .i64 1))] [(1, some (.cells (Command.cells a0))), (300000, some (.cells [.ptr 1 6, .ptr 1 8, .ptr 1 10, .ptr 1 12]))] (by kernel_rfl) ?_
        refine SimI.run 1 [(39, .one (lb true))] [] (by kernel_rfl) ?_
        refine SimI.done (by kernel_rfl) ?_
        refine SimE.thenN ?_
        refine Sim.seq ?_
        refine Sim.condT (by kernel_rfl) ?_
        refine Sim.skip ?_
        refine SimE.thenN ?_
        refine Sim.seq ?_
        refine Sim.block ?_
        refine Sim.seq ?_
        refine Sim.region0 ?_
        refine SimI.run 3 [(8, .one (.ptr 1 8)), (41, .one (.ptr 1 8)), (40, .one (.ptr 300000 1))] [] (by kernel_rfl) ?_
        refine SimI.done (by kernel_rfl) ?_
        refine SimE.thenN ?_
        refine Sim.region0 ?_
        refine SimI.run 5 [(46, .one (ls a0.F.a1.Text)), (45, .one (.ptr 1 9)), (44, .one (.ptr 1 8)), (43, .one (.ptr 1 8)), (42, .one (ls (s20 ++ (r25 ++ r26))))] [] (by kernel_rfl) ?_
        refine SimI.bind (og := F44 n a0.F.a1.Text) { dst := some 47, op := POp.call false [[]] 44 [Operand.tmp 46], guard := none, hints := [(46, Hint.imm)] } (fun r27 => [(47, .one (ls r27))]) (fun r27 => []) (by kernel_rfl) (fun r27 hr => pOp_eff (by kernel_rfl) (by kernel_rfl) (eff_call (ARGS := [.one (ls a0.F.a1.Text)]) (by kernel_rfl) (args_clean (by kernel_rfl) args_nil) (F44_ok n a0.F.a1.Text r27 hr) (by kernel_rfl))) (fun r27 => ?_)
        refine SimI.run 4 [(51, .one (li .i64 a0.F.a1.N)), (50, .one (.ptr 1 8)), (49, .one (.ptr 1 8)), (48, .one (.ptr 1 8))] [] (by kernel_rfl) ?_
        refine SimI.bind (og := F45 n a0.F.a1.N) { dst := some 52, op := POp.call false [[]] 45 [Operand.tmp 51], guard := none, hints := [(51, Hint.imm)] } (fun r28 => [(52, .one (ls r28))]) (fun r28 => []) (by kernel_rfl) (fun r28 hr => pOp_eff (by kernel_rfl) (by kernel_rfl) (eff_call (ARGS := [.one (li .i64 a0.F.a1.N)]) (by kernel_rfl) (args_clean (by kernel_rfl) args_nil) (F45_ok n a0.F.a1.N r28 hr) (by kernel_rfl))) (fun r28 => ?_)
        refine SimI.guard (c := r27.size + r28.size ≤ 9223372036854775807) { dst := some 53, op := POp.prim (Prim.bin BinOp.add 9 false false) [Operand.tmp 47, Operand.tmp 52], guard := none, hints := [(47, Hint.imm), (52, Hint.imm)] } [(53, .one (ls (r27 ++ r28)))] [] (by kernel_rfl) (fun hc => pOp_eff (by kernel_rfl) (by kernel_rfl) (eff_prim (by kernel_rfl) (pr_addS _ _ _ r27 r28 hc))) ?_
        refine SimI.guard (c := (s20 ++ (r25 ++ r26)).size + (r27 ++ r28).size ≤ 9223372036854775807) { dst := some 54, op := POp.prim (Prim.bin BinOp.add 9 false false) [Operand.tmp 42, Operand.tmp 53], guard := none, hints := [(42, Hint.imm), (53, Hint.imm)] } [(54, .one (ls ((s20 ++ (r25 ++ r26)) ++ (r27 ++ r28))))] [] (by kernel_rfl) (fun hc => pOp_eff (by kernel_rfl) (by kernel_rfl) (eff_prim (by kernel_rfl) (pr_addS _ _ _ (s20 ++ (r25 ++ r26)) (r27 ++ r28) hc))) ?_
        refine SimI.run 1 [(4, .one (ls ((s20 ++ (r25 ++ r26)) ++ (r27 ++ r28))))] [] (by kernel_rfl) ?_
        refine SimI.done (by kernel_rfl) ?_
        refine SimE.blockN ?_
        refine SimE.thenN ?_
        refine Sim.region0 ?_
        refine SimI.run 2 [(38, .one (li .i64 2)), (55, .one (li .i64 2))] [] (by kernel_rfl) ?_
        refine SimI.done (by kernel_rfl) ?_
        refine SimE.loopN ?_
        refine SimL.succ ?_
        refine Sim.seq ?_
        refine Sim.region [(4, .one (ls ((s20 ++ (r25 ++ r26)) ++ (r27 ++ r28)))), (36, .one (.csl 300000 1 0 4)), (37, .one (li .i64 4)), (38, .one (li .i64 2))] [(1, some (.cells (Command.cells a0))), (300000, some (.cells [.ptr 1 6, .ptr 1 8, .ptr 1 10, .ptr 1 12]))] (by kernel_rfl) ?_
        refine SimI.run 1 [(39, .one (lb true))] [] (by kernel_rfl) ?_
        refine SimI.done (by kernel_rfl) ?_
        refine SimE.thenN ?_
        refine Sim.seq ?_
        refine Sim.condT (by kernel_rfl) ?_
        refine Sim.skip ?_
        refine SimE.thenN ?_
        refine Sim.seq ?_
        refine Sim.block ?_
        refine Sim.seq ?_
        refine Sim.region0 ?_
        refine SimI.run 3 [(8, .one (.ptr 1 10)), (41, .one (.ptr 1 10)), (40, .one (.ptr 300000 2))] [] (by kernel_rfl) ?_
        refine SimI.done (by kernel_rfl) ?_
        refine SimE.thenN ?_
        refine Sim.region0 ?_
        refine SimI.run 5 [(46, .one (ls a0.F.a2.Text)), (45, .one (.ptr 1 11)), (44, .one (.ptr 1 10)), (43, .one (.ptr 1 10)), (42, .one (ls ((s20 ++ (r25 ++ r26)) ++ (r27 ++ r28))))] [] (by kernel_rfl) ?_
        refine SimI.bind (og := F44 n a0.F.a2.Text) { dst := some 47, op := POp.call false [[]] 44 [Operand.tmp 46], guard := none, hints := [(46, Hint.imm)] } (fun r29 => [(47, .one (ls r29))]) (fun r29 => []) (by kernel_rfl) (fun r29 hr => pOp_eff (by kernel_rfl) (by kernel_rfl) (eff_call (ARGS := [.one (ls a0.F.a2.Text)]) (by kernel_rfl) (args_clean (by kernel_rfl) args_nil) (F44_ok n a0.F.a2.Text r29 hr) (by kernel_rfl))) (fun r29 => ?_)
        refine SimI.run 4 [(51, .one (li .i64 a0.F.a2.N)), (50, .one (.ptr 1 10)), (49, .one (.ptr 1 10)), (48, .one (.ptr 1 10))] [] (by kernel_rfl) ?_
        refine SimI.bind (og := F45 n a0.F.a2.N) { dst := some 52, op := POp.call false [[]] 45 [Operand.tmp 51], guard := none, hints := [(51, Hint.imm)] } (fun r30 => [(52, .one (ls r30))]) (fun r30 => []) (by kernel_rfl) (fun r30 hr => pOp_eff (by kernel_rfl) (by kernel_rfl) (eff_call (ARGS := [.one (li .i64 a0.F.a2.N)]) (by kernel_rfl) (args_clean (by kernel_rfl) args_nil) (F45_ok n a0.F.a2.N r30 hr) (by kernel_rfl))) (fun r30 => ?_)
        refine SimI.guard (c := r29.size + r30.size ≤ 9223372036854775807) { dst := some 53, op := POp.prim (Prim.bin BinOp.add 9 false false) [Operand.tmp 47, Operand.tmp 52], guard := none, hints := [(47, Hint.imm), (52, Hint.imm)] } [(53, .one (ls (r29 ++ r30)))] [] (by kernel_rfl) (fun hc => pOp_eff (by kernel_rfl) (by kernel_rfl) (eff_prim (by kernel_rfl) (pr_addS _ _ _ r29 r30 hc))) ?_
        refine SimI.guard (c := ((s20 ++ (r25 ++ r26)) ++ (r27 ++ r28)).size + (r29 ++ r30).size ≤ 9223372036854775807) { dst := some 54, op := POp.prim (Prim.bin BinOp.add 9 false false) [Operand.tmp 42, Operand.tmp 53], guard := none, hints := [(42, Hint.imm), (53, Hint.imm)] } [(54, .one (ls (((s20 ++ (r25 ++ r26)) ++ (r27 ++ r28)) ++ (r29 ++ r30))))] [] (by kernel_rfl) (fun hc => pOp_eff (by kernel_rfl) (by kernel_rfl) (eff_prim (by kernel_rfl) (pr_addS _ _ _ ((s20 ++ (r25 ++ r26)) ++ (r27 ++ r28)) (r29 ++ r30) hc))) ?_
        refine SimI.run 1 [(4, .one (ls (((s20 ++ (r25 ++ r26)) ++ (r27 ++ r28)) ++ (r29 ++ r30))))] [] (by kernel_rfl) ?_
        refine SimI.done (by kernel_rfl) ?_
        refine SimE.blockN ?_
        refine SimE.thenN ?_
        refine Sim.region0 ?_
        refine SimI.run 2 [(38, .one (li .i64 3)), (55, .one (li .i64 3))] [] (by kernel_rfl) ?_
        refine SimI.done (by kernel_rfl) ?_
        refine SimE.loopN ?_
        refine SimL.succ ?_
        refine Sim.seq ?_
        refine Sim.region [(4, .one (ls (((s20 ++ (r25 ++ r26)) ++ (r27 ++ r28)) ++ (r29 ++ r30)))), (36, .one (.csl 300000 1 0 4)), (37, .one (li .i64 4)), (38, .one (li .i64 3))] [(1, some (.cells (Command.cells a0))), (300000, some (.cells [.ptr 1 6, .ptr 1 8, .ptr 1 10, .ptr 1 12]))] (by kernel_rfl) ?_
        refine SimI.run 1 [(39, .one (lb true))] [] (by kernel_rfl) ?_
        refine SimI.done (by kernel_rfl) ?_
        refine SimE.thenN ?_
        refine Sim.seq ?_
        refine Sim.condT (by kernel_rfl) ?_
        refine Sim.skip ?_
        refine SimE.thenN ?_
        refine Sim.seq ?_
        refine Sim.block ?_
        refine Sim.seq ?_
        refine Sim.region0 ?_
        refine SimI.run 3 [(8, .one (.ptr 1 12)), (41, .one (.ptr 1 12)), (40, .one (.ptr 300000 3))] [] (by kernel_rfl) ?_
        refine SimI.done (by kernel_rfl) ?_
        refine SimE.thenN ?_
        refine Sim.region0 ?_
        refine SimI.run 5 [(46, .one (ls a0.F.a3.Text)), (45, .one (.ptr 1 13)), (44, .one (.ptr 1 12)), (43, .one (.ptr 1 12)), (42, .one (ls (((s20 ++ (r25 ++ r26)) ++ (r27 ++ r28)) ++ (r29 ++ r30))))] [] (by kernel_rfl) ?_
        refine SimI.bind (og := F44 n a0.F.a3.Text) { dst := some 47, op := POp.call false [[]] 44 [Operand.tmp 46], guard := none, hints := [(46, Hint.imm)] } (fun r31 => [(47, .one (ls r31))]) (fun r31 => []) (by kernel_rfl) (fun r31 hr => pOp_eff (by kernel_rfl) (by kernel_rfl) (eff_call (ARGS := [.one (ls a0.F.a3.Text)]) (by kernel_rfl) (args_clean (by kernel_rfl) args_nil) (F44_ok n a0.F.a3.Text r31 hr) (by kernel_rfl))) (fun r31 => ?_)
        refine SimI.run 4 [(51, .one (li .i64 a0.F.a3.N)), (50, .one (.ptr 1 12)), (49, .one (.ptr 1 12)), (48, .one (.ptr 1 12))] [] (by kernel_rfl) ?_
        refine SimI.bind (og := F45 n a0.F.a3.N) { dst := some 52, op := POp.call false [[]] 45 [Operand.tmp 51], guard := none, hints := [(51, Hint.imm)] } (fun r32 => [(52, .one (ls r32))]) (fun r32 => []) (by kernel_rfl) (fun r32 hr => pOp_eff (by kernel_rfl) (by kernel_rfl) (eff_call (ARGS := [.one (li .i64 a0.F.a3.N)]) (by kernel_rfl) (args_clean (by kernel_rfl) args_nil) (F45_ok n a0.F.a3.N r32 hr) (by kernel_rfl))) (fun r32 => ?_)
        refine SimI.guard (c := r31.size + r32.size ≤ 9223372036854775807) { dst := some 53, op := POp.prim (Prim.bin BinOp.add 9 false false) [Operand.tmp 47, Operand.tmp 52], guard := none, hints := [(47, Hint.imm), (52, Hint.imm)] } [(53, .one (ls (r31 ++ r32)))] [] (by kernel_rfl) (fun hc => pOp_eff (by kernel_rfl) (by kernel_rfl) (eff_prim (by kernel_rfl) (pr_addS _ _ _ r31 r32 hc))) ?_
        refine SimI.guard (c := (((s20 ++ (r25 ++ r26)) ++ (r27 ++ r28)) ++ (r29 ++ r30)).size + (r31 ++ r32).size ≤ 9223372036854775807) { dst := some 54, op := POp.prim (Prim.bin BinOp.add 9 false false) [Operand.tmp 42, Operand.tmp 53], guard := none, hints := [(42, Hint.imm), (53, Hint.imm)] } [(54, .one (ls ((((s20 ++ (r25 ++ r26)) ++ (r27 ++ r28)) ++ (r29 ++ r30)) ++ (r31 ++ r32))))] [] (by kernel_rfl) (fun hc => pOp_eff (by kernel_rfl) (by kernel_rfl) (eff_prim (by kernel_rfl) (pr_addS _ _ _ (((s20 ++ (r25 ++ r26)) ++ (r27 ++ r28)) ++ (r29 ++ r30)) (r31 ++ r32) hc))) ?_
        refine SimI.run 1 [(4, .one (ls ((((s20 ++ (r25 ++ r26)) ++ (r27 ++ r28)) ++ (r29 ++ r30)) ++ (r31 ++ r32))))] [] (by kernel_rfl) ?_
        refine SimI.done (by kernel_rfl) ?_
        refine SimE.blockN ?_
        refine SimE.thenN ?_
        refine Sim.region0 ?_
        refine SimI.run 2 [(38, .one (li .i64 4)), (55, .one (li .i64 4))] [] (by kernel_rfl) ?_
        refine SimI.done (by kernel_rfl) ?_
        refine SimE.loopN ?_
        refine SimL.succ ?_
        refine Sim.seq ?_
        refine Sim.region [(4, .one (ls ((((s20 ++ (r25 ++ r26)) ++ (r27 ++ r28)) ++ (r29 ++ r30)) ++ (r31 ++ r32)))), (36, .one (.csl 300000 1 0 4)), (37, .one (li .i64 4)), (38, .one (li .i64 4))] [(1, some (.cells (Command.cells a0))), (300000, some (.cells [.ptr 1 6, .ptr 1 8, .ptr 1 10, .ptr 1 12]))] (by kernel_rfl) ?_
        refine SimI.run 1 [(39, .one (lb false))] [] (by kernel_rfl) ?_
        refine SimI.done (by kernel_rfl) ?_
        refine SimE.thenN ?_
        refine Sim.seq ?_
        refine Sim.condF (by kernel_rfl) ?_
        refine Sim.exit ?_
        refine SimE.thenX ?_
        refine SimE.loopX ?_
        refine SimE.blockX ?_
        refine SimE.thenN ?_
        refine Sim.seq ?_
        refine Sim.region0 ?_
        refine SimI.run 3 [(3, .one (li .i64 0)), (2, .one (ls ((((s20 ++ (r25 ++ r26)) ++ (r27 ++ r28)) ++ (r29 ++ r30)) ++ (r31 ++ r32)))), (56, .one (ls ((((s20 ++ (r25 ++ r26)) ++ (r27 ++ r28)) ++ (r29 ++ r30)) ++ (r31 ++ r32))))] [] (by kernel_rfl) ?_
        refine SimI.done (by kernel_rfl) ?_
        refine SimE.thenN ?_
        refine Sim.ret ?_
        exact SimE.fin (by kernel_rfl)
      · refine SimI.ite (c := r22 = 2) (fun cr22 => ?_) (fun _ => ?_)
        · refine SimI.step { dst := some 36, op := POp.gcall false false [1, 300000, 300001, 300002, 300003, 300004, 300005, 300006, 300007] [[]] 57 [Operand.tmp 1], guard := none, hints := [] } [(36, .one (.csl 300000 1 0 1))] [(1, some (.cells (Command.cells a0))), (300000, some (.cells [.ptr 1 14]))] (by kernel_rfl) (pOp_eff (by kernel_rfl) (by kernel_rfl) (eff_gcall (ks := [1]) (rks := []) (new := [300000]) (ARGS := [.one (.ptr 1 0)]) (args1 := [.one (.ptr 1 0)]) (args2 := [.one (.ptr 1000000 0)]) (os := [.cells (Command.cells a0)]) (os' := [.cells (Command.cells a0), .cells [.ptr 1000000 14]]) (os1 := [.cells (Command.cells a0), .cells [.ptr 1000000 14]]) (res := .one (.csl 1000001 1 0 1)) (res1 := .one (.csl 1000001 1 0 1)) (r := .one (.csl 300000 1 0 1)) (N := [(1, some (.cells (Command.cells a0))), (300000, some (.cells [.ptr 1 14]))]) (by kernel_rfl) (readA_ow (readA_keep (by kernel_rfl) (readA_nil))) (by kernel_rfl) (by kernel_rfl) (by kernel_rfl) (by kernel_rfl) ((F57s0_ok n a0 r22 hr22).trans (congrArg some (F57s0_e_2 a0 r22 cr22))) (by kernel_rfl) (by kernel_rfl) (by kernel_rfl) rfl (by kernel_rfl) (by kernel_rfl) (by kernel_rfl))) ?_
          refine SimI.run 2 [(38, .one (li .i64 0)), (37, .one (li .i64 1))] [] (by kernel_rfl) ?_
          refine SimI.done (by kernel_rfl) ?_
          refine SimE.thenN ?_
          refine Sim.block ?_
          refine Sim.loop ?_
          refine SimL.succ ?_
          refine Sim.seq ?_
          refine Sim.region [(4, .one (ls s20)), (36, .one (.csl 300000 1 0 1)), (37, .one (li .i64 1)), (38, .one (li .i64 0))] [(1, some (.cells (Command.cells a0))), (300000, some (.cells [.ptr 1 14]))] (by kernel_rfl) ?_
          refine SimI.run 1 [(39, .one (lb true))] [] (by kernel_rfl) ?_
          refine SimI.done (by kernel_rfl) ?_
          refine SimE.thenN ?_
          refine Sim.seq ?_
          refine Sim.condT (by kernel_rfl) ?_
          refine Sim.skip ?_
          refine SimE.thenN ?_
          refine Sim.seq ?_
          refine Sim.block ?_
          refine Sim.seq ?_
          refine Sim.region0 ?_
          refine SimI.run 3 [(8, .one (.ptr 1 14)), (41, .one (.ptr 1 14)), (40, .one (.ptr 300000 0))] [] (by kernel_rfl) ?_
          refine SimI.done (by kernel_rfl) ?_
          refine SimE.thenN ?_
          refine Sim.region0 ?_
          refine SimI.run 5 [(46, .one (ls a0.Value.Text)), (45, .one (.ptr 1 15)), (44, .one (.ptr 1 14)), (43, .one (.ptr 1 14)), (42, .one (ls s20))] [] (by kernel_rfl) ?_
          refine SimI.bind (og := F44 n a0.Value.Text) { dst := some 47, op := POp.call false [[]] 44 [Operand.tmp 46], guard := none, hints := [(46, Hint.imm)] } (fun r23 => [(47, .one (ls r23))]) (fun r23 => []) (by kernel_rfl) (fun r23 hr => pOp_eff (by kernel_rfl) (by kernel_rfl) (eff_call (ARGS := [.one (ls a0.Value.Text)]) (by kernel_rfl) (args_clean (by kernel_rfl) args_nil) (F44_ok n a0.Value.Text r23 hr) (by kernel_rfl))) (fun r23 => ?_)
          refine SimI.run 4 [(51, .one (li .i64 a0.Value.N)), (50, .one (.ptr 1 14)), (49, .one (.ptr 1 14)), (48, .one (.ptr 1 14))] [] (by kernel_rfl) ?_
          refine SimI.bind (og := F45 n a0.Value.N) { dst := some 52, op := POp.call false [[]] 45 [Operand.tmp 51], guard := none, hints := [(51, Hint.imm)] } (fun r24 => [(52, .one (ls r24))]) (fun r24 => []) (by kernel_rfl) (fun r24 hr => pOp_eff (by kernel_rfl) (by kernel_rfl) (eff_call (ARGS := [.one (li .i64 a0.Value.N)]) (by kernel_rfl) (args_clean (by kernel_rfl) args_nil) (F45_ok n a0.Value.N r24 hr) (by kernel_rfl))) (fun r24 => ?_)
          refine SimI.guard (c := r23.size + r24.size ≤ 9223372036854775807) { dst := some 53, op := POp.prim (Prim.bin BinOp.add 9 false false) [Operand.tmp 47, Operand.tmp 52], guard := none, hints := [(47, Hint.imm), (52, Hint.imm)] } [(53, .one (ls (r23 ++ r24)))] [] (by kernel_rfl) (fun hc => pOp_eff (by kernel_rfl) (by kernel_rfl) (eff_prim (by kernel_rfl) (pr_addS _ _ _ r23 r24 hc))) ?_
          refine SimI.guard (c := s20.size + (r23 ++ r24).size ≤ 9223372036854775807) { dst := some 54, op := POp.prim (Prim.bin BinOp.add 9 false false) [Operand.tmp 42, Operand.tmp 53], guard := none, hints := [(42, Hint.imm), (53, Hint.imm)] } [(54, .one (ls (s20 ++ (r23 ++ r24))))] [] (by kernel_rfl) (fun hc => pOp_eff (by kernel_rfl) (by kernel_rfl) (eff_prim (by kernel_rfl) (pr_addS _ _ _ s20 (r23 ++ r24) hc))) ?_
          refine SimI.run 1 [(4, .one (ls (s20 ++ (r23 ++ r24))))] [] (by kernel_rfl) ?_
          refine SimI.done (by kernel_rfl) ?_
          refine SimE.blockN ?_
          refine SimE.thenN ?_
          refine Sim.region0 ?_
          refine SimI.run 2 [(38, .one (li .i64 1)), (55, .one (li .i64 1))] [] (by kernel_rfl) ?_
          refine SimI.done (by kernel_rfl) ?_
          refine SimE.loopN ?_
          refine SimL.succ ?_
          refine Sim.seq ?_
          refine Sim.region [(4, .one (ls (s20 ++ (r23 ++ r24)))), (36, .one (.csl 300000 1 0 1)), (37, .one (li .i64 1)), (38, .one (li .i64 1))] [(1, some (.cells (Command.cells a0))), (300000, some (.cells [.ptr 1 14]))] (by kernel_rfl) ?_
          refine SimI.run 1 [(39, .one (lb false))] [] (by kernel_rfl) ?_
          refine SimI.done (by kernel_rfl) ?_
          refine SimE.thenN ?_
          refine Sim.seq ?_
          refine Sim.condF (by kernel_rfl) ?_
          refine Sim.exit ?_
          refine SimE.thenX ?_
          refine SimE.loopX ?_
          refine SimE.blockX ?_
          refine SimE.thenN ?_
          refine Sim.seq ?_
          refine Sim.region0 ?_
          refine SimI.run 3 [(3, .one (li .i64 0)), (2, .one (ls (s20 ++ (r23 ++ r24)))), (56, .one (ls (s20 ++ (r23 ++ r24))))] [] (by kernel_rfl) ?_
          refine SimI.done (by kernel_rfl) ?_
          refine SimE.thenN ?_
          refine Sim.ret ?_
          exact SimE.fin (by kernel_rfl)
        · exact SimI.vac rfl

def F34 (n : Nat) (a0 : Command) : Option (ByteArray × Int) :=
  (F35 n a0).bind fun (r1 : Bool) =>
  if !(r1) then
    some (ByteArray.empty, 11)
  else
    (F45 n a0.Kind).bind fun (r2 : ByteArray) =>
    (F45 n a0.Client).bind fun (r3 : ByteArray) =>
    if r2.size + r3.size ≤ 9223372036854775807 then
      (F45 n a0.Session).bind fun (r4 : ByteArray) =>
      if (r2 ++ r3).size + r4.size ≤ 9223372036854775807 then
        (F56s0 n a0).bind fun (r5 : Nat) =>
        if r5 = 0 then
          F34_j21 n a0 ((r2 ++ r3) ++ r4)
        else
          if r5 = 1 then
            (F45 n a0.At.X).bind fun (r18 : ByteArray) =>
            if ((r2 ++ r3) ++ r4).size + r18.size ≤ 9223372036854775807 then
              (F45 n a0.At.Y).bind fun (r19 : ByteArray) =>
              if (((r2 ++ r3) ++ r4) ++ r18).size + r19.size ≤ 9223372036854775807 then
                F34_j21 n a0 ((((r2 ++ r3) ++ r4) ++ r18) ++ r19)
              else none
            else none
          else
            if r5 = 2 then
              (F45 n a0.ID).bind fun (r15 : ByteArray) =>
              if ((r2 ++ r3) ++ r4).size + r15.size ≤ 9223372036854775807 then
                (F45 n a0.At.X).bind fun (r16 : ByteArray) =>
                if (((r2 ++ r3) ++ r4) ++ r15).size + r16.size ≤ 9223372036854775807 then
                  (F45 n a0.At.Y).bind fun (r17 : ByteArray) =>
                  if ((((r2 ++ r3) ++ r4) ++ r15) ++ r16).size + r17.size ≤ 9223372036854775807 then
                    F34_j21 n a0 (((((r2 ++ r3) ++ r4) ++ r15) ++ r16) ++ r17)
                  else none
                else none
              else none
            else
              if r5 = 3 then
                (F45 n a0.ID).bind fun (r13 : ByteArray) =>
                if ((r2 ++ r3) ++ r4).size + r13.size ≤ 9223372036854775807 then
                  (F45 n a0.Which).bind fun (r14 : ByteArray) =>
                  if (((r2 ++ r3) ++ r4) ++ r13).size + r14.size ≤ 9223372036854775807 then
                    F34_j21 n a0 ((((r2 ++ r3) ++ r4) ++ r13) ++ r14)
                  else none
                else none
              else
                if r5 = 4 then
                  (F45 n a0.ID).bind fun (r12 : ByteArray) =>
                  if ((r2 ++ r3) ++ r4).size + r12.size ≤ 9223372036854775807 then
                    F34_j21 n a0 (((r2 ++ r3) ++ r4) ++ r12)
                  else none
                else
                  if r5 = 5 then
                    (F45 n a0.Which).bind fun (r10 : ByteArray) =>
                    if ((r2 ++ r3) ++ r4).size + r10.size ≤ 9223372036854775807 then
                      (F45 n a0.To).bind fun (r11 : ByteArray) =>
                      if (((r2 ++ r3) ++ r4) ++ r10).size + r11.size ≤ 9223372036854775807 then
                        F34_j21 n a0 ((((r2 ++ r3) ++ r4) ++ r10) ++ r11)
                      else none
                    else none
                  else
                    if r5 = 6 then
                      (F45 n a0.Rect.X0).bind fun (r6 : ByteArray) =>
                      if ((r2 ++ r3) ++ r4).size + r6.size ≤ 9223372036854775807 then
                        (F45 n a0.Rect.Y0).bind fun (r7 : ByteArray) =>
                        if (((r2 ++ r3) ++ r4) ++ r6).size + r7.size ≤ 9223372036854775807 then
                          (F45 n a0.Rect.X1).bind fun (r8 : ByteArray) =>
                          if ((((r2 ++ r3) ++ r4) ++ r6) ++ r7).size + r8.size ≤ 9223372036854775807 then
                            (F45 n a0.Rect.Y1).bind fun (r9 : ByteArray) =>
                            if (((((r2 ++ r3) ++ r4) ++ r6) ++ r7) ++ r8).size + r9.size ≤ 9223372036854775807 then
                              F34_j21 n a0 ((((((r2 ++ r3) ++ r4) ++ r6) ++ r7) ++ r8) ++ r9)
                            else none
                          else none
                        else none
                      else none
                    else
                      none
      else none
    else none
theorem F34_ok (n : Nat) (a0 : Command) : ∀ r, F34 n a0 = some r → D 34 [.agg (Command.cells a0)] [] = some (F34_e r) := by
  refine fn_to (D := D) (n := n + 8) (nt := 57) (rs := pc34_r) (c := pc34_c49) (L := [(0, .agg (Command.cells a0))]) (M := []) (k := 0) rfl rfl rfl rfl rfl rfl rfl ?_
  unfold F34
  refine Sim.seq ?_
  refine Sim.region0 ?_
  refine SimI.run 3 [(3, .one (li .i64 0)), (2, .one (ls ByteArray.empty)), (1, .one (.ptr 1 0))] [(1, some (.cells (Command.cells a0)))] (by kernel_rfl) ?_
  refine SimI.done (by kernel_rfl) ?_
  refine SimE.thenN ?_
  refine Sim.seq ?_
  refine Sim.seq ?_
  refine Sim.region0 ?_
  refine SimI.run 1 [(9, .agg (Command.cells a0))] [] (by kernel_rfl) ?_
  refine SimI.bind (og := F35 n a0) { dst := some 10, op := POp.call true [[]] 35 [Operand.tmp 9], guard := none, hints := [] } (fun r1 => [(10, .one (lb r1))]) (fun r1 => []) (by kernel_rfl) (fun r1 hr => pOp_eff (by kernel_rfl) (by kernel_rfl) (eff_call (ARGS := [.agg (Command.cells a0)]) (by kernel_rfl) (args_clean (by kernel_rfl) args_nil) (F35_ok n a0 r1 hr) (by kernel_rfl))) (fun r1 => ?_)
  refine SimI.run 1 [(11, .one (lb (!(r1))))] [] (by kernel_rfl) ?_
  refine SimI.done (by kernel_rfl) ?_
  refine SimE.thenN ?_
  refine Sim.cond (!(r1)) (by kernel_rfl) ?_ ?_
  · refine Sim.seq ?_
    refine Sim.region0 ?_
    refine SimI.run 2 [(3, .one (li .i64 11)), (2, .one (ls ByteArray.empty))] [] (by kernel_rfl) ?_
    refine SimI.done (by kernel_rfl) ?_
    refine SimE.thenN ?_
    refine Sim.ret ?_
    refine SimE.thenR ?_
    exact SimE.fin (by kernel_rfl)
  · refine Sim.skip ?_
    refine SimE.thenN ?_
    refine Sim.seq ?_
    refine Sim.region0 ?_
    refine SimI.run 2 [(13, .one (li .i64 a0.Kind)), (12, .one (.ptr 1 0))] [] (by kernel_rfl) ?_
    refine SimI.bind (og := F45 n a0.Kind) { dst := some 14, op := POp.call false [[]] 45 [Operand.tmp 13], guard := none, hints := [(13, Hint.imm)] } (fun r2 => [(14, .one (ls r2))]) (fun r2 => []) (by kernel_rfl) (fun r2 hr => pOp_eff (by kernel_rfl) (by kernel_rfl) (eff_call (ARGS := [.one (li .i64 a0.Kind)]) (by kernel_rfl) (args_clean (by kernel_rfl) args_nil) (F45_ok n a0.Kind r2 hr) (by kernel_rfl))) (fun r2 => ?_)
    refine SimI.run 2 [(16, .one (li .i64 a0.Client)), (15, .one (.ptr 1 16))] [] (by kernel_rfl) ?_
    refine SimI.bind (og := F45 n a0.Client) { dst := some 17, op := POp.call false [[]] 45 [Operand.tmp 16], guard := none, hints := [(16, Hint.imm)] } (fun r3 => [(17, .one (ls r3))]) (fun r3 => []) (by kernel_rfl) (fun r3 hr => pOp_eff (by kernel_rfl) (by kernel_rfl) (eff_call (ARGS := [.one (li .i64 a0.Client)]) (by kernel_rfl) (args_clean (by kernel_rfl) args_nil) (F45_ok n a0.Client r3 hr) (by kernel_rfl))) (fun r3 => ?_)
    refine SimI.guard (c := r2.size + r3.size ≤ 9223372036854775807) { dst := some 18, op := POp.prim (Prim.bin BinOp.add 9 false false) [Operand.tmp 14, Operand.tmp 17], guard := none, hints := [(14, Hint.imm), (17, Hint.imm)] } [(18, .one (ls (r2 ++ r3)))] [] (by kernel_rfl) (fun hc => pOp_eff (by kernel_rfl) (by kernel_rfl) (eff_prim (by kernel_rfl) (pr_addS _ _ _ r2 r3 hc))) ?_
    refine SimI.run 2 [(20, .one (li .i64 a0.Session)), (19, .one (.ptr 1 17))] [] (by kernel_rfl) ?_
    refine SimI.bind (og := F45 n a0.Session) { dst := some 21, op := POp.call false [[]] 45 [Operand.tmp 20], guard := none, hints := [(20, Hint.imm)] } (fun r4 => [(21, .one (ls r4))]) (fun r4 => []) (by kernel_rfl) (fun r4 hr => pOp_eff (by kernel_rfl) (by kernel_rfl) (eff_call (ARGS := [.one (li .i64 a0.Session)]) (by kernel_rfl) (args_clean (by kernel_rfl) args_nil) (F45_ok n a0.Session r4 hr) (by kernel_rfl))) (fun r4 => ?_)
    refine SimI.guard (c := (r2 ++ r3).size + r4.size ≤ 9223372036854775807) { dst := some 22, op := POp.prim (Prim.bin BinOp.add 9 false false) [Operand.tmp 18, Operand.tmp 21], guard := none, hints := [(18, Hint.imm), (21, Hint.imm)] } [(22, .one (ls ((r2 ++ r3) ++ r4)))] [] (by kernel_rfl) (fun hc => pOp_eff (by kernel_rfl) (by kernel_rfl) (eff_prim (by kernel_rfl) (pr_addS _ _ _ (r2 ++ r3) r4 hc))) ?_
    refine SimI.run 1 [(4, .one (ls ((r2 ++ r3) ++ r4)))] [] (by kernel_rfl) ?_
    refine SimI.done (by kernel_rfl) ?_
    refine SimE.thenN ?_
    refine Sim.seq ?_
    refine Sim.seq ?_
    refine Sim.region0 ?_
    refine SimI.open (og := F56s0 n a0) (fun r5 hr5 => ?_)
    refine SimI.ite (c := r5 = 0) (fun cr5 => ?_) (fun _ => ?_)
    · refine SimI.step { dst := some 23, op := POp.gcall false false [1, 300000, 300001, 300002, 300003, 300004, 300005, 300006, 300007] [[]] 56 [Operand.tmp 1], guard := none, hints := [] } [(23, .one (.view 1 0 fun _ => []))] [(1, some (.cells (Command.cells a0)))] (by kernel_rfl) (pOp_eff (by kernel_rfl) (by kernel_rfl) (eff_gcall (ks := [1]) (rks := []) (new := []) (ARGS := [.one (.ptr 1 0)]) (args1 := [.one (.ptr 1 0)]) (args2 := [.one (.ptr 1000000 0)]) (os := [.cells (Command.cells a0)]) (os' := [.cells (Command.cells a0)]) (os1 := [.cells (Command.cells a0)]) (res := .one (.view 1 0 fun _ => [])) (res1 := .one (.view 1 0 fun _ => [])) (r := .one (.view 1 0 fun _ => [])) (N := [(1, some (.cells (Command.cells a0)))]) (by kernel_rfl) (readA_ow (readA_keep (by kernel_rfl) (readA_nil))) (by kernel_rfl) (by kernel_rfl) (by kernel_rfl) (by kernel_rfl) ((F56s0_ok n a0 r5 hr5).trans (congrArg some (F56s0_e_0 a0 r5 cr5))) (by kernel_rfl) (by kernel_rfl) (by kernel_rfl) rfl (by kernel_rfl) (by kernel_rfl) (by kernel_rfl))) ?_
      refine SimI.run 2 [(25, .one (li .i64 0)), (24, .one (li .i64 0))] [] (by kernel_rfl) ?_
      refine SimI.done (by kernel_rfl) ?_
      refine SimE.thenN ?_
      refine Sim.block ?_
      refine Sim.loop ?_
      refine SimL.succ ?_
      refine Sim.seq ?_
      refine Sim.region [(1, .one (.ptr 1 0)), (4, .one (ls ((r2 ++ r3) ++ r4))), (23, .one (.view 1 0 fun _ => [])), (24, .one (li .i64 0)), (25, .one (li .i64 0))] [(1, some (.cells (Command.cells a0)))] (by kernel_rfl) ?_
      refine SimI.run 1 [(26, .one (lb false))] [] (by kernel_rfl) ?_
      refine SimI.done (by kernel_rfl) ?_
      refine SimE.thenN ?_
      refine Sim.seq ?_
      refine Sim.condF (by kernel_rfl) ?_
      refine Sim.exit ?_
      refine SimE.thenX ?_
      refine SimE.loopX ?_
      refine SimE.blockX ?_
      refine SimE.thenN ?_
      refine Sim.pre (ts := [1, 4]) (os := [1, 300000]) (ow := []) [(1, .one (.ptr 1 0)), (4, .one (ls ((r2 ++ r3) ++ r4)))] [(1, some (.cells (Command.cells a0)))] (by kernel_rfl) (by kernel_rfl) (by kernel_rfl) ?_
      exact F34_j21_ok n a0 ((r2 ++ r3) ++ r4)
    · refine SimI.ite (c := r5 = 1) (fun cr5 => ?_) (fun _ => ?_)
      · refine SimI.step { dst := some 23, op := POp.gcall false false [1, 300000, 300001, 300002, 300003, 300004, 300005, 300006, 300007] [[]] 56 [Operand.tmp 1], guard := none, hints := [] } [(23, .one (.csl 300000 1 0 2))] [(1, some (.cells (Command.cells a0))), (300000, some (.cells [.ptr 1 4, .ptr 1 5]))] (by kernel_rfl) (pOp_eff (by kernel_rfl) (by kernel_rfl) (eff_gcall (ks := [1]) (rks := []) (new := [300000]) (ARGS := [.one (.ptr 1 0)]) (args1 := [.one (.ptr 1 0)]) (args2 := [.one (.ptr 1000000 0)]) (os := [.cells (Command.cells a0)]) (os' := [.cells (Command.cells a0), .cells [.ptr 1000000 4, .ptr 1000000 5]]) (os1 := [.cells (Command.cells a0), .cells [.ptr 1000000 4, .ptr 1000000 5]]) (res := .one (.csl 1000001 1 0 2)) (res1 := .one (.csl 1000001 1 0 2)) (r := .one (.csl 300000 1 0 2)) (N := [(1, some (.cells (Command.cells a0))), (300000, some (.cells [.ptr 1 4, .ptr 1 5]))]) (by kernel_rfl) (readA_ow (readA_keep (by kernel_rfl) (readA_nil))) (by kernel_rfl) (by kernel_rfl) (by kernel_rfl) (by kernel_rfl) ((F56s0_ok n a0 r5 hr5).trans (congrArg some (F56s0_e_1 a0 r5 cr5))) (by kernel_rfl) (by kernel_rfl) (by kernel_rfl) rfl (by kernel_rfl) (by kernel_rfl) (by kernel_rfl))) ?_
        refine SimI.run 2 [(25, .one (li .i64 0)), (24, .one (li .i64 2))] [] (by kernel_rfl) ?_
        refine SimI.done (by kernel_rfl) ?_
        refine SimE.thenN ?_
        refine Sim.block ?_
        refine Sim.loop ?_
        refine SimL.succ ?_
        refine Sim.seq ?_
        refine Sim.region [(1, .one (.ptr 1 0)), (4, .one (ls ((r2 ++ r3) ++ r4))), (23, .one (.csl 300000 1 0 2)), (24, .one (li .i64 2)), (25, .one (li .i64 0))] [(1, some (.cells (Command.cells a0))), (300000, some (.cells [.ptr 1 4, .ptr 1 5]))] (by kernel_rfl) ?_
        refine SimI.run 1 [(26, .one (lb true))] [] (by kernel_rfl) ?_
        refine SimI.done (by kernel_rfl) ?_
        refine SimE.thenN ?_
        refine Sim.seq ?_
        refine Sim.condT (by kernel_rfl) ?_
        refine Sim.skip ?_
        refine SimE.thenN ?_
        refine Sim.seq ?_
        refine Sim.block ?_
        refine Sim.seq ?_
        refine Sim.region0 ?_
        refine SimI.run 3 [(6, .one (.ptr 1 4)), (28, .one (.ptr 1 4)), (27, .one (.ptr 300000 0))] [] (by kernel_rfl) ?_
        refine SimI.done (by kernel_rfl) ?_
        refine SimE.thenN ?_
        refine Sim.region0 ?_
        refine SimI.run 4 [(32, .one (li .i64 a0.At.X)), (31, .one (.ptr 1 4)), (30, .one (.ptr 1 4)), (29, .one (ls ((r2 ++ r3) ++ r4)))] [] (by kernel_rfl) ?_
        refine SimI.bind (og := F45 n a0.At.X) { dst := some 33, op := POp.call true [[]] 45 [Operand.tmp 32], guard := none, hints := [] } (fun r18 => [(33, .one (ls r18))]) (fun r18 => []) (by kernel_rfl) (fun r18 hr => pOp_eff (by kernel_rfl) (by kernel_rfl) (eff_call (ARGS := [.one (li .i64 a0.At.X)]) (by kernel_rfl) (args_clean (by kernel_rfl) args_nil) (F45_ok n a0.At.X r18 hr) (by kernel_rfl))) (fun r18 => ?_)
        refine SimI.guard (c := ((r2 ++ r3) ++ r4).size + r18.size ≤ 9223372036854775807) { dst := some 34, op := POp.prim (Prim.bin BinOp.add 9 false false) [Operand.tmp 29, Operand.tmp 33], guard := none, hints := [] } [(34, .one (ls (((r2 ++ r3) ++ r4) ++ r18)))] [] (by kernel_rfl) (fun hc => pOp_eff (by kernel_rfl) (by kernel_rfl) (eff_prim (by kernel_rfl) (pr_addS _ _ _ ((r2 ++ r3) ++ r4) r18 hc))) ?_
        refine SimI.run 1 [(4, .one (ls (((r2 ++ r3) ++ r4) ++ r18)))] [] (by kernel_rfl) ?_
        refine SimI.done (by kernel_rfl) ?_
        refine SimE.blockN ?_
        refine SimE.thenN ?_
        refine Sim.region0 ?_
        refine SimI.run 2 [(25, .one (li .i64 1)), (35, .one (li .i64 1))] [] (by kernel_rfl) ?_
        refine SimI.done (by kernel_rfl) ?_
        refine SimE.loopN ?_
        refine SimL.succ ?_
        refine Sim.seq ?_
        refine Sim.region [(1, .one (.ptr 1 0)), (4, .one (ls (((r2 ++ r3) ++ r4) ++ r18))), (23, .one (.csl 300000 1 0 2)), (24, .one (li .i64 2)), (25, .one (li .i64 1))] [(1, some (.cells (Command.cells a0))), (300000, some (.cells [.ptr 1 4, .ptr 1 5]))] (by kernel_rfl) ?_
        refine SimI.run 1 [(26, .one (lb true))] [] (by kernel_rfl) ?_
        refine SimI.done (by kernel_rfl) ?_
        refine SimE.thenN ?_
        refine Sim.seq ?_
        refine Sim.condT (by kernel_rfl) ?_
        refine Sim.skip ?_
        refine SimE.thenN ?_
        refine Sim.seq ?_
        refine Sim.block ?_
        refine Sim.seq ?_
        refine Sim.region0 ?_
        refine SimI.run 3 [(6, .one (.ptr 1 5)), (28, .one (.ptr 1 5)), (27, .one (.ptr 300000 1))] [] (by kernel_rfl) ?_
        refine SimI.done (by kernel_rfl) ?_
        refine SimE.thenN ?_
        refine Sim.region0 ?_
        refine SimI.run 4 [(32, .one (li .i64 a0.At.Y)), (31, .one (.ptr 1 5)), (30, .one (.ptr 1 5)), (29, .one (ls (((r2 ++ r3) ++ r4) ++ r18)))] [] (by kernel_rfl) ?_
        refine SimI.bind (og := F45 n a0.At.Y) { dst := some 33, op := POp.call true [[]] 45 [Operand.tmp 32], guard := none, hints := [] } (fun r19 => [(33, .one (ls r19))]) (fun r19 => []) (by kernel_rfl) (fun r19 hr => pOp_eff (by kernel_rfl) (by kernel_rfl) (eff_call (ARGS := [.one (li .i64 a0.At.Y)]) (by kernel_rfl) (args_clean (by kernel_rfl) args_nil) (F45_ok n a0.At.Y r19 hr) (by kernel_rfl))) (fun r19 => ?_)
        refine SimI.guard (c := (((r2 ++ r3) ++ r4) ++ r18).size + r19.size ≤ 9223372036854775807) { dst := some 34, op := POp.prim (Prim.bin BinOp.add 9 false false) [Operand.tmp 29, Operand.tmp 33], guard := none, hints := [] } [(34, .one (ls ((((r2 ++ r3) ++ r4) ++ r18) ++ r19)))] [] (by kernel_rfl) (fun hc => pOp_eff (by kernel_rfl) (by kernel_rfl) (eff_prim (by kernel_rfl) (pr_addS _ _ _ (((r2 ++ r3) ++ r4) ++ r18) r19 hc))) ?_
        refine SimI.run 1 [(4, .one (ls ((((r2 ++ r3) ++ r4) ++ r18) ++ r19)))] [] (by kernel_rfl) ?_
        refine SimI.done (by kernel_rfl) ?_
        refine SimE.blockN ?_
        refine SimE.thenN ?_
        refine Sim.region0 ?_
        refine SimI.run 2 [(25, .one (li .i64 2)), (35, .one (li .i64 2))] [] (by kernel_rfl) ?_
        refine SimI.done (by kernel_rfl) ?_
        refine SimE.loopN ?_
        refine SimL.succ ?_
        refine Sim.seq ?_
        refine Sim.region [(1, .one (.ptr 1 0)), (4, .one (ls ((((r2 ++ r3) ++ r4) ++ r18) ++ r19))), (23, .one (.csl 300000 1 0 2)), (24, .one (li .i64 2)), (25, .one (li .i64 2))] [(1, some (.cells (Command.cells a0))), (300000, some (.cells [.ptr 1 4, .ptr 1 5]))] (by kernel_rfl) ?_
        refine SimI.run 1 [(26, .one (lb false))] [] (by kernel_rfl) ?_
        refine SimI.done (by kernel_rfl) ?_
        refine SimE.thenN ?_
        refine Sim.seq ?_
        refine Sim.condF (by kernel_rfl) ?_
        refine Sim.exit ?_
        refine SimE.thenX ?_
        refine SimE.loopX ?_
        refine SimE.blockX ?_
        refine SimE.thenN ?_
        refine Sim.pre (ts := [1, 4]) (os := [1, 300000]) (ow := []) [(1, .one (.ptr 1 0)), (4, .one (ls ((((r2 ++ r3) ++ r4) ++ r18) ++ r19)))] [(1, some (.cells (Command.cells a0)))] (by kernel_rfl) (by kernel_rfl) (by kernel_rfl) ?_
        exact F34_j21_ok n a0 ((((r2 ++ r3) ++ r4) ++ r18) ++ r19)
      · refine SimI.ite (c := r5 = 2) (fun cr5 => ?_) (fun _ => ?_)
        · refine SimI.step { dst := some 23, op := POp.gcall false false [1, 300000, 300001, 300002, 300003, 300004, 300005, 300006, 300007] [[]] 56 [Operand.tmp 1], guard := none, hints := [] } [(23, .one (.csl 300000 1 0 3))] [(1, some (.cells (Command.cells a0))), (300000, some (.cells [.ptr 1 1, .ptr 1 4, .ptr 1 5]))] (by kernel_rfl) (pOp_eff (by kernel_rfl) (by kernel_rfl) (eff_gcall (ks := [1]) (rks := []) (new := [300000]) (ARGS := [.one (.ptr 1 0)]) (args1 := [.one (.ptr 1 0)]) (args2 := [.one (.ptr 1000000 0)]) (os := [.cells (Command.cells a0)]) (os' := [.cells (Command.cells a0), .cells [.ptr 1000000 1, .ptr 1000000 4, .ptr 1000000 5]]) (os1 := [.cells (Command.cells a0), .cells [.ptr 1000000 1, .ptr 1000000 4, .ptr 1000000 5]]) (res := .one (.csl 1000001 1 0 3)) (res1 := .one (.csl 1000001 1 0 3)) (r := .one (.csl 300000 1 0 3)) (N := [(1, some (.cells (Command.cells a0))), (300000, some (.cells [.ptr 1 1, .ptr 1 4, .ptr 1 5]))]) (by kernel_rfl) (readA_ow (readA_keep (by kernel_rfl) (readA_nil))) (by kernel_rfl) (by kernel_rfl) (by kernel_rfl) (by kernel_rfl) ((F56s0_ok n a0 r5 hr5).trans (congrArg some (F56s0_e_2 a0 r5 cr5))) (by kernel_rfl) (by kernel_rfl) (by kernel_rfl) rfl (by kernel_rfl) (by kernel_rfl) (by kernel_rfl))) ?_
          refine SimI.run 2 [(25, .one (li .i64 0)), (24, .one (li .i64 3))] [] (by kernel_rfl) ?_
          refine SimI.done (by kernel_rfl) ?_
          refine SimE.thenN ?_
          refine Sim.block ?_
          refine Sim.loop ?_
          refine SimL.succ ?_
          refine Sim.seq ?_
          refine Sim.region [(1, .one (.ptr 1 0)), (4, .one (ls ((r2 ++ r3) ++ r4))), (23, .one (.csl 300000 1 0 3)), (24, .one (li .i64 3)), (25, .one (li .i64 0))] [(1, some (.cells (Command.cells a0))), (300000, some (.cells [.ptr 1 1, .ptr 1 4, .ptr 1 5]))] (by kernel_rfl) ?_
          refine SimI.run 1 [(26, .one (lb true))] [] (by kernel_rfl) ?_
          refine SimI.done (by kernel_rfl) ?_
          refine SimE.thenN ?_
          refine Sim.seq ?_
          refine Sim.condT (by kernel_rfl) ?_
          refine Sim.skip ?_
          refine SimE.thenN ?_
          refine Sim.seq ?_
          refine Sim.block ?_
          refine Sim.seq ?_
          refine Sim.region0 ?_
          refine SimI.run 3 [(6, .one (.ptr 1 1)), (28, .one (.ptr 1 1)), (27, .one (.ptr 300000 0))] [] (by kernel_rfl) ?_
          refine SimI.done (by kernel_rfl) ?_
          refine SimE.thenN ?_
          refine Sim.region0 ?_
          refine SimI.run 4 [(32, .one (li .i64 a0.ID)), (31, .one (.ptr 1 1)), (30, .one (.ptr 1 1)), (29, .one (ls ((r2 ++ r3) ++ r4)))] [] (by kernel_rfl) ?_
          refine SimI.bind (og := F45 n a0.ID) { dst := some 33, op := POp.call true [[]] 45 [Operand.tmp 32], guard := none, hints := [] } (fun r15 => [(33, .one (ls r15))]) (fun r15 => []) (by kernel_rfl) (fun r15 hr => pOp_eff (by kernel_rfl) (by kernel_rfl) (eff_call (ARGS := [.one (li .i64 a0.ID)]) (by kernel_rfl) (args_clean (by kernel_rfl) args_nil) (F45_ok n a0.ID r15 hr) (by kernel_rfl))) (fun r15 => ?_)
          refine SimI.guard (c := ((r2 ++ r3) ++ r4).size + r15.size ≤ 9223372036854775807) { dst := some 34, op := POp.prim (Prim.bin BinOp.add 9 false false) [Operand.tmp 29, Operand.tmp 33], guard := none, hints := [] } [(34, .one (ls (((r2 ++ r3) ++ r4) ++ r15)))] [] (by kernel_rfl) (fun hc => pOp_eff (by kernel_rfl) (by kernel_rfl) (eff_prim (by kernel_rfl) (pr_addS _ _ _ ((r2 ++ r3) ++ r4) r15 hc))) ?_
          refine SimI.run 1 [(4, .one (ls (((r2 ++ r3) ++ r4) ++ r15)))] [] (by kernel_rfl) ?_
          refine SimI.done (by kernel_rfl) ?_
          refine SimE.blockN ?_
          refine SimE.thenN ?_
          refine Sim.region0 ?_
          refine SimI.run 2 [(25, .one (li .i64 1)), (35, .one (li .i64 1))] [] (by kernel_rfl) ?_
          refine SimI.done (by kernel_rfl) ?_
          refine SimE.loopN ?_
          refine SimL.succ ?_
          refine Sim.seq ?_
          refine Sim.region [(1, .one (.ptr 1 0)), (4, .one (ls (((r2 ++ r3) ++ r4) ++ r15))), (23, .one (.csl 300000 1 0 3)), (24, .one (li .i64 3)), (25, .one (li .i64 1))] [(1, some (.cells (Command.cells a0))), (300000, some (.cells [.ptr 1 1, .ptr 1 4, .ptr 1 5]))] (by kernel_rfl) ?_
          refine SimI.run 1 [(26, .one (lb true))] [] (by kernel_rfl) ?_
          refine SimI.done (by kernel_rfl) ?_
          refine SimE.thenN ?_
          refine Sim.seq ?_
          refine Sim.condT (by kernel_rfl) ?_
          refine Sim.skip ?_
          refine SimE.thenN ?_
          refine Sim.seq ?_
          refine Sim.block ?_
          refine Sim.seq ?_
          refine Sim.region0 ?_
          refine SimI.run 3 [(6, .one (.ptr 1 4)), (28, .one (.ptr 1 4)), (27, .one (.ptr 300000 1))] [] (by kernel_rfl) ?_
          refine SimI.done (by kernel_rfl) ?_
          refine SimE.thenN ?_
          refine Sim.region0 ?_
          refine SimI.run 4 [(32, .one (li .i64 a0.At.X)), (31, .one (.ptr 1 4)), (30, .one (.ptr 1 4)), (29, .one (ls (((r2 ++ r3) ++ r4) ++ r15)))] [] (by kernel_rfl) ?_
          refine SimI.bind (og := F45 n a0.At.X) { dst := some 33, op := POp.call true [[]] 45 [Operand.tmp 32], guard := none, hints := [] } (fun r16 => [(33, .one (ls r16))]) (fun r16 => []) (by kernel_rfl) (fun r16 hr => pOp_eff (by kernel_rfl) (by kernel_rfl) (eff_call (ARGS := [.one (li .i64 a0.At.X)]) (by kernel_rfl) (args_clean (by kernel_rfl) args_nil) (F45_ok n a0.At.X r16 hr) (by kernel_rfl))) (fun r16 => ?_)
          refine SimI.guard (c := (((r2 ++ r3) ++ r4) ++ r15).size + r16.size ≤ 9223372036854775807) { dst := some 34, op := POp.prim (Prim.bin BinOp.add 9 false false) [Operand.tmp 29, Operand.tmp 33], guard := none, hints := [] } [(34, .one (ls ((((r2 ++ r3) ++ r4) ++ r15) ++ r16)))] [] (by kernel_rfl) (fun hc => pOp_eff (by kernel_rfl) (by kernel_rfl) (eff_prim (by kernel_rfl) (pr_addS _ _ _ (((r2 ++ r3) ++ r4) ++ r15) r16 hc))) ?_
          refine SimI.run 1 [(4, .one (ls ((((r2 ++ r3) ++ r4) ++ r15) ++ r16)))] [] (by kernel_rfl) ?_
          refine SimI.done (by kernel_rfl) ?_
          refine SimE.blockN ?_
          refine SimE.thenN ?_
          refine Sim.region0 ?_
          refine SimI.run 2 [(25, .one (li .i64 2)), (35, .one (li .i64 2))] [] (by kernel_rfl) ?_
          refine SimI.done (by kernel_rfl) ?_
          refine SimE.loopN ?_
          refine SimL.succ ?_
          refine Sim.seq ?_
          refine Sim.region [(1, .one (.ptr 1 0)), (4, .one (ls ((((r2 ++ r3) ++ r4) ++ r15) ++ r16))), (23, .one (.csl 300000 1 0 3)), (24, .one (li .i64 3)), (25, .one (li .i64 2))] [(1, some (.cells (Command.cells a0))), (300000, some (.cells [.ptr 1 1, .ptr 1 4, .ptr 1 5]))] (by kernel_rfl) ?_
          refine SimI.run 1 [(26, .one (lb true))] [] (by kernel_rfl) ?_
          refine SimI.done (by kernel_rfl) ?_
          refine SimE.thenN ?_
          refine Sim.seq ?_
          refine Sim.condT (by kernel_rfl) ?_
          refine Sim.skip ?_
          refine SimE.thenN ?_
          refine Sim.seq ?_
          refine Sim.block ?_
          refine Sim.seq ?_
          refine Sim.region0 ?_
          refine SimI.run 3 [(6, .one (.ptr 1 5)), (28, .one (.ptr 1 5)), (27, .one (.ptr 300000 2))] [] (by kernel_rfl) ?_
          refine SimI.done (by kernel_rfl) ?_
          refine SimE.thenN ?_
          refine Sim.region0 ?_
          refine SimI.run 4 [(32, .one (li .i64 a0.At.Y)), (31, .one (.ptr 1 5)), (30, .one (.ptr 1 5)), (29, .one (ls ((((r2 ++ r3) ++ r4) ++ r15) ++ r16)))] [] (by kernel_rfl) ?_
          refine SimI.bind (og := F45 n a0.At.Y) { dst := some 33, op := POp.call true [[]] 45 [Operand.tmp 32], guard := none, hints := [] } (fun r17 => [(33, .one (ls r17))]) (fun r17 => []) (by kernel_rfl) (fun r17 hr => pOp_eff (by kernel_rfl) (by kernel_rfl) (eff_call (ARGS := [.one (li .i64 a0.At.Y)]) (by kernel_rfl) (args_clean (by kernel_rfl) args_nil) (F45_ok n a0.At.Y r17 hr) (by kernel_rfl))) (fun r17 => ?_)
          refine SimI.guard (c := ((((r2 ++ r3) ++ r4) ++ r15) ++ r16).size + r17.size ≤ 9223372036854775807) { dst := some 34, op := POp.prim (Prim.bin BinOp.add 9 false false) [Operand.tmp 29, Operand.tmp 33], guard := none, hints := [] } [(34, .one (ls (((((r2 ++ r3) ++ r4) ++ r15) ++ r16) ++ r17)))] [] (by kernel_rfl) (fun hc => pOp_eff (by kernel_rfl) (by kernel_rfl) (eff_prim (by kernel_rfl) (pr_addS _ _ _ ((((r2 ++ r3) ++ r4) ++ r15) ++ r16) r17 hc))) ?_
          refine SimI.run 1 [(4, .one (ls (((((r2 ++ r3) ++ r4) ++ r15) ++ r16) ++ r17)))] [] (by kernel_rfl) ?_
          refine SimI.done (by kernel_rfl) ?_
          refine SimE.blockN ?_
          refine SimE.thenN ?_
          refine Sim.region0 ?_
          refine SimI.run 2 [(25, .one (li .i64 3)), (35, .one (li .i64 3))] [] (by kernel_rfl) ?_
          refine SimI.done (by kernel_rfl) ?_
          refine SimE.loopN ?_
          refine SimL.succ ?_
          refine Sim.seq ?_
          refine Sim.region [(1, .one (.ptr 1 0)), (4, .one (ls (((((r2 ++ r3) ++ r4) ++ r15) ++ r16) ++ r17))), (23, .one (.csl 300000 1 0 3)), (24, .one (li .i64 3)), (25, .one (li .i64 3))] [(1, some (.cells (Command.cells a0))), (300000, some (.cells [.ptr 1 1, .ptr 1 4, .ptr 1 5]))] (by kernel_rfl) ?_
          refine SimI.run 1 [(26, .one (lb false))] [] (by kernel_rfl) ?_
          refine SimI.done (by kernel_rfl) ?_
          refine SimE.thenN ?_
          refine Sim.seq ?_
          refine Sim.condF (by kernel_rfl) ?_
          refine Sim.exit ?_
          refine SimE.thenX ?_
          refine SimE.loopX ?_
          refine SimE.blockX ?_
          refine SimE.thenN ?_
          refine Sim.pre (ts := [1, 4]) (os := [1, 300000]) (ow := []) [(1, .one (.ptr 1 0)), (4, .one (ls (((((r2 ++ r3) ++ r4) ++ r15) ++ r16) ++ r17)))] [(1, some (.cells (Command.cells a0)))] (by kernel_rfl) (by kernel_rfl) (by kernel_rfl) ?_
          exact F34_j21_ok n a0 (((((r2 ++ r3) ++ r4) ++ r15) ++ r16) ++ r17)
        · refine SimI.ite (c := r5 = 3) (fun cr5 => ?_) (fun _ => ?_)
          · refine SimI.step { dst := some 23, op := POp.gcall false false [1, 300000, 300001, 300002, 300003, 300004, 300005, 300006, 300007] [[]] 56 [Operand.tmp 1], guard := none, hints := [] } [(23, .one (.csl 300000 1 0 2))] [(1, some (.cells (Command.cells a0))), (300000, some (.cells [.ptr 1 1, .ptr 1 2]))] (by kernel_rfl) (pOp_eff (by kernel_rfl) (by kernel_rfl) (eff_gcall (ks := [1]) (rks := []) (new := [300000]) (ARGS := [.one (.ptr 1 0)]) (args1 := [.one (.ptr 1 0)]) (args2 := [.one (.ptr 1000000 0)]) (os := [.cells (Command.cells a0)]) (os' := [.cells (Command.cells a0), .cells [.ptr 1000000 1, .ptr 1000000 2]]) (os1 := [.cells (Command.cells a0), .cells [.ptr 1000000 1, .ptr 1000000 2]]) (res := .one (.csl 1000001 1 0 2)) (res1 := .one (.csl 1000001 1 0 2)) (r := .one (.csl 300000 1 0 2)) (N := [(1, some (.cells (Command.cells a0))), (300000, some (.cells [.ptr 1 1, .ptr 1 2]))]) (by kernel_rfl) (readA_ow (readA_keep (by kernel_rfl) (readA_nil))) (by kernel_rfl) (by kernel_rfl) (by kernel_rfl) (by kernel_rfl) ((F56s0_ok n a0 r5 hr5).trans (congrArg some (F56s0_e_3 a0 r5 cr5))) (by kernel_rfl) (by kernel_rfl) (by kernel_rfl) rfl (by kernel_rfl) (by kernel_rfl) (by kernel_rfl))) ?_
            refine SimI.run 2 [(25, .one (li .i64 0)), (24, .one (li .i64 2))] [] (by kernel_rfl) ?_
            refine SimI.done (by kernel_rfl) ?_
            refine SimE.thenN ?_
            refine Sim.block ?_
            refine Sim.loop ?_
            refine SimL.succ ?_
            refine Sim.seq ?_
            refine Sim.region [(1, .one (.ptr 1 0)), (4, .one (ls ((r2 ++ r3) ++ r4))), (23, .one (.csl 300000 1 0 2)), (24, .one (li .i64 2)), (25, .one (li .i64 0))] [(1, some (.cells (Command.cells a0))), (300000, some (.cells [.ptr 1 1, .ptr 1 2]))] (by kernel_rfl) ?_
            refine SimI.run 1 [(26, .one (lb true))] [] (by kernel_rfl) ?_
            refine SimI.done (by kernel_rfl) ?_
            refine SimE.thenN ?_
            refine Sim.seq ?_
            refine Sim.condT (by kernel_rfl) ?_
            refine Sim.skip ?_
            refine SimE.thenN ?_
            refine Sim.seq ?_
            refine Sim.block ?_
            refine Sim.seq ?_
            refine Sim.region0 ?_
            refine SimI.run 3 [(6, .one (.ptr 1 1)), (28, .one (.ptr 1 1)), (27, .one (.ptr 300000 0))] [] (by kernel_rfl) ?_
            refine SimI.done (by kernel_rfl) ?_
            refine SimE.thenN ?_
            refine Sim.region0 ?_
            refine SimI.run 4 [(32, .one (li .i64 a0.ID)), (31, .one (.ptr 1 1)), (30, .one (.ptr 1 1)), (29, .one (ls ((r2 ++ r3) ++ r4)))] [] (by kernel_rfl) ?_
            refine SimI.bind (og := F45 n a0.ID) { dst := some 33, op := POp.call true [[]] 45 [Operand.tmp 32], guard := none, hints := [] } (fun r13 => [(33, .one (ls r13))]) (fun r13 => []) (by kernel_rfl) (fun r13 hr => pOp_eff (by kernel_rfl) (by kernel_rfl) (eff_call (ARGS := [.one (li .i64 a0.ID)]) (by kernel_rfl) (args_clean (by kernel_rfl) args_nil) (F45_ok n a0.ID r13 hr) (by kernel_rfl))) (fun r13 => ?_)
            refine SimI.guard (c := ((r2 ++ r3) ++ r4).size + r13.size ≤ 9223372036854775807) { dst := some 34, op := POp.prim (Prim.bin BinOp.add 9 false false) [Operand.tmp 29, Operand.tmp 33], guard := none, hints := [] } [(34, .one (ls (((r2 ++ r3) ++ r4) ++ r13)))] [] (by kernel_rfl) (fun hc => pOp_eff (by kernel_rfl) (by kernel_rfl) (eff_prim (by kernel_rfl) (pr_addS _ _ _ ((r2 ++ r3) ++ r4) r13 hc))) ?_
            refine SimI.run 1 [(4, .one (ls (((r2 ++ r3) ++ r4) ++ r13)))] [] (by kernel_rfl) ?_
            refine SimI.done (by kernel_rfl) ?_
            refine SimE.blockN ?_
            refine SimE.thenN ?_
            refine Sim.region0 ?_
            refine SimI.run 2 [(25, .one (li .i64 1)), (35, .one (li .i64 1))] [] (by kernel_rfl) ?_
            refine SimI.done (by kernel_rfl) ?_
            refine SimE.loopN ?_
            refine SimL.succ ?_
            refine Sim.seq ?_
            refine Sim.region [(1, .one (.ptr 1 0)), (4, .one (ls (((r2 ++ r3) ++ r4) ++ r13))), (23, .one (.csl 300000 1 0 2)), (24, .one (li .i64 2)), (25, .one (li .i64 1))] [(1, some (.cells (Command.cells a0))), (300000, some (.cells [.ptr 1 1, .ptr 1 2]))] (by kernel_rfl) ?_
            refine SimI.run 1 [(26, .one (lb true))] [] (by kernel_rfl) ?_
            refine SimI.done (by kernel_rfl) ?_
            refine SimE.thenN ?_
            refine Sim.seq ?_
            refine Sim.condT (by kernel_rfl) ?_
            refine Sim.skip ?_
            refine SimE.thenN ?_
            refine Sim.seq ?_
            refine Sim.block ?_
            refine Sim.seq ?_
            refine Sim.region0 ?_
            refine SimI.run 3 [(6, .one (.ptr 1 2)), (28, .one (.ptr 1 2)), (27, .one (.ptr 300000 1))] [] (by kernel_rfl) ?_
            refine SimI.done (by kernel_rfl) ?_
            refine SimE.thenN ?_
            refine Sim.region0 ?_
            refine SimI.run 4 [(32, .one (li .i64 a0.Which)), (31, .one (.ptr 1 2)), (30, .one (.ptr 1 2)), (29, .one (ls (((r2 ++ r3) ++ r4) ++ r13)))] [] (by kernel_rfl) ?_
            refine SimI.bind (og := F45 n a0.Which) { dst := some 33, op := POp.call true [[]] 45 [Operand.tmp 32], guard := none, hints := [] } (fun r14 => [(33, .one (ls r14))]) (fun r14 => []) (by kernel_rfl) (fun r14 hr => pOp_eff (by kernel_rfl) (by kernel_rfl) (eff_call (ARGS := [.one (li .i64 a0.Which)]) (by kernel_rfl) (args_clean (by kernel_rfl) args_nil) (F45_ok n a0.Which r14 hr) (by kernel_rfl))) (fun r14 => ?_)
            refine SimI.guard (c := (((r2 ++ r3) ++ r4) ++ r13).size + r14.size ≤ 9223372036854775807) { dst := some 34, op := POp.prim (Prim.bin BinOp.add 9 false false) [Operand.tmp 29, Operand.tmp 33], guard := none, hints := [] } [(34, .one (ls ((((r2 ++ r3) ++ r4) ++ r13) ++ r14)))] [] (by kernel_rfl) (fun hc => pOp_eff (by kernel_rfl) (by kernel_rfl) (eff_prim (by kernel_rfl) (pr_addS _ _ _ (((r2 ++ r3) ++ r4) ++ r13) r14 hc))) ?_
            refine SimI.run 1 [(4, .one (ls ((((r2 ++ r3) ++ r4) ++ r13) ++ r14)))] [] (by kernel_rfl) ?_
            refine SimI.done (by kernel_rfl) ?_
            refine SimE.blockN ?_
            refine SimE.thenN ?_
            refine Sim.region0 ?_
            refine SimI.run 2 [(25, .one (li .i64 2)), (35, .one (li .i64 2))] [] (by kernel_rfl) ?_
            refine SimI.done (by kernel_rfl) ?_
            refine SimE.loopN ?_
            refine SimL.succ ?_
            refine Sim.seq ?_
            refine Sim.region [(1, .one (.ptr 1 0)), (4, .one (ls ((((r2 ++ r3) ++ r4) ++ r13) ++ r14))), (23, .one (.csl 300000 1 0 2)), (24, .one (li .i64 2)), (25, .one (li .i64 2))] [(1, some (.cells (Command.cells a0))), (300000, some (.cells [.ptr 1 1, .ptr 1 2]))] (by kernel_rfl) ?_
            refine SimI.run 1 [(26, .one (lb false))] [] (by kernel_rfl) ?_
            refine SimI.done (by kernel_rfl) ?_
            refine SimE.thenN ?_
            refine Sim.seq ?_
            refine Sim.condF (by kernel_rfl) ?_
            refine Sim.exit ?_
            refine SimE.thenX ?_
            refine SimE.loopX ?_
            refine SimE.blockX ?_
            refine SimE.thenN ?_
            refine Sim.pre (ts := [1, 4]) (os := [1, 300000]) (ow := []) [(1, .one (.ptr 1 0)), (4, .one (ls ((((r2 ++ r3) ++ r4) ++ r13) ++ r14)))] [(1, some (.cells (Command.cells a0)))] (by kernel_rfl) (by kernel_rfl) (by kernel_rfl) ?_
            exact F34_j21_ok n a0 ((((r2 ++ r3) ++ r4) ++ r13) ++ r14)
          · refine SimI.ite (c := r5 = 4) (fun cr5 => ?_) (fun _ => ?_)
            · refine SimI.step { dst := some 23, op := POp.gcall false false [1, 300000, 300001, 300002, 300003, 300004, 300005, 300006, 300007] [[]] 56 [Operand.tmp 1], guard := none, hints := [] } [(23, .one (.csl 300000 1 0 1))] [(1, some (.cells (Command.cells a0))), (300000, some (.cells [.ptr 1 1]))] (by kernel_rfl) (pOp_eff (by kernel_rfl) (by kernel_rfl) (eff_gcall (ks := [1]) (rks := []) (new := [300000]) (ARGS := [.one (.ptr 1 0)]) (args1 := [.one (.ptr 1 0)]) (args2 := [.one (.ptr 1000000 0)]) (os := [.cells (Command.cells a0)]) (os' := [.cells (Command.cells a0), .cells [.ptr 1000000 1]]) (os1 := [.cells (Command.cells a0), .cells [.ptr 1000000 1]]) (res := .one (.csl 1000001 1 0 1)) (res1 := .one (.csl 1000001 1 0 1)) (r := .one (.csl 300000 1 0 1)) (N := [(1, some (.cells (Command.cells a0))), (300000, some (.cells [.ptr 1 1]))]) (by kernel_rfl) (readA_ow (readA_keep (by kernel_rfl) (readA_nil))) (by kernel_rfl) (by kernel_rfl) (by kernel_rfl) (by kernel_rfl) ((F56s0_ok n a0 r5 hr5).trans (congrArg some (F56s0_e_4 a0 r5 cr5))) (by kernel_rfl) (by kernel_rfl) (by kernel_rfl) rfl (by kernel_rfl) (by kernel_rfl) (by kernel_rfl))) ?_
              refine SimI.run 2 [(25, .one (li .i64 0)), (24, .one (li .i64 1))] [] (by kernel_rfl) ?_
              refine SimI.done (by kernel_rfl) ?_
              refine SimE.thenN ?_
              refine Sim.block ?_
              refine Sim.loop ?_
              refine SimL.succ ?_
              refine Sim.seq ?_
              refine Sim.region [(1, .one (.ptr 1 0)), (4, .one (ls ((r2 ++ r3) ++ r4))), (23, .one (.csl 300000 1 0 1)), (24, .one (li .i64 1)), (25, .one (li .i64 0))] [(1, some (.cells (Command.cells a0))), (300000, some (.cells [.ptr 1 1]))] (by kernel_rfl) ?_
              refine SimI.run 1 [(26, .one (lb true))] [] (by kernel_rfl) ?_
              refine SimI.done (by kernel_rfl) ?_
              refine SimE.thenN ?_
              refine Sim.seq ?_
              refine Sim.condT (by kernel_rfl) ?_
              refine Sim.skip ?_
              refine SimE.thenN ?_
              refine Sim.seq ?_
              refine Sim.block ?_
              refine Sim.seq ?_
              refine Sim.region0 ?_
              refine SimI.run 3 [(6, .one (.ptr 1 1)), (28, .one (.ptr 1 1)), (27, .one (.ptr 300000 0))] [] (by kernel_rfl) ?_
              refine SimI.done (by kernel_rfl) ?_
              refine SimE.thenN ?_
              refine Sim.region0 ?_
              refine SimI.run 4 [(32, .one (li .i64 a0.ID)), (31, .one (.ptr 1 1)), (30, .one (.ptr 1 1)), (29, .one (ls ((r2 ++ r3) ++ r4)))] [] (by kernel_rfl) ?_
              refine SimI.bind (og := F45 n a0.ID) { dst := some 33, op := POp.call true [[]] 45 [Operand.tmp 32], guard := none, hints := [] } (fun r12 => [(33, .one (ls r12))]) (fun r12 => []) (by kernel_rfl) (fun r12 hr => pOp_eff (by kernel_rfl) (by kernel_rfl) (eff_call (ARGS := [.one (li .i64 a0.ID)]) (by kernel_rfl) (args_clean (by kernel_rfl) args_nil) (F45_ok n a0.ID r12 hr) (by kernel_rfl))) (fun r12 => ?_)
              refine SimI.guard (c := ((r2 ++ r3) ++ r4).size + r12.size ≤ 9223372036854775807) { dst := some 34, op := POp.prim (Prim.bin BinOp.add 9 false false) [Operand.tmp 29, Operand.tmp 33], guard := none, hints := [] } [(34, .one (ls (((r2 ++ r3) ++ r4) ++ r12)))] [] (by kernel_rfl) (fun hc => pOp_eff (by kernel_rfl) (by kernel_rfl) (eff_prim (by kernel_rfl) (pr_addS _ _ _ ((r2 ++ r3) ++ r4) r12 hc))) ?_
              refine SimI.run 1 [(4, .one (ls (((r2 ++ r3) ++ r4) ++ r12)))] [] (by kernel_rfl) ?_
              refine SimI.done (by kernel_rfl) ?_
              refine SimE.blockN ?_
              refine SimE.thenN ?_
              refine Sim.region0 ?_
              refine SimI.run 2 [(25, .one (li .i64 1)), (35, .one (li .i64 1))] [] (by kernel_rfl) ?_
              refine SimI.done (by kernel_rfl) ?_
              refine SimE.loopN ?_
              refine SimL.succ ?_
              refine Sim.seq ?_
              refine Sim.region [(1, .one (.ptr 1 0)), (4, .one (ls (((r2 ++ r3) ++ r4) ++ r12))), (23, .one (.csl 300000 1 0 1)), (24, .one (li .i64 1)), (25, .one (li .i64 1))] [(1, some (.cells (Command.cells a0))), (300000, some (.cells [.ptr 1 1]))] (by kernel_rfl) ?_
              refine SimI.run 1 [(26, .one (lb false))] [] (by kernel_rfl) ?_
              refine SimI.done (by kernel_rfl) ?_
              refine SimE.thenN ?_
              refine Sim.seq ?_
              refine Sim.condF (by kernel_rfl) ?_
              refine Sim.exit ?_
              refine SimE.thenX ?_
              refine SimE.loopX ?_
              refine SimE.blockX ?_
              refine SimE.thenN ?_
              refine Sim.pre (ts := [1, 4]) (os := [1, 300000]) (ow := []) [(1, .one (.ptr 1 0)), (4, .one (ls (((r2 ++ r3) ++ r4) ++ r12)))] [(1, some (.cells (Command.cells a0)))] (by kernel_rfl) (by kernel_rfl) (by kernel_rfl) ?_
              exact F34_j21_ok n a0 (((r2 ++ r3) ++ r4) ++ r12)
            · refine SimI.ite (c := r5 = 5) (fun cr5 => ?_) (fun _ => ?_)
              · refine SimI.step { dst := some 23, op := POp.gcall false false [1, 300000, 300001, 300002, 300003, 300004, 300005, 300006, 300007] [[]] 56 [Operand.tmp 1], guard := none, hints := [] } [(23, .one (.csl 300000 1 0 2))] [(1, some (.cells (Command.cells a0))), (300000, some (.cells [.ptr 1 2, .ptr 1 3]))] (by kernel_rfl) (pOp_eff (by kernel_rfl) (by kernel_rfl) (eff_gcall (ks := [1]) (rks := []) (new := [300000]) (ARGS := [.one (.ptr 1 0)]) (args1 := [.one (.ptr 1 0)]) (args2 := [.one (.ptr 1000000 0)]) (os := [.cells (Command.cells a0)]) (os' := [.cells (Command.cells a0), .cells [.ptr 1000000 2, .ptr 1000000 3]]) (os1 := [.cells (Command.cells a0), .cells [.ptr 1000000 2, .ptr 1000000 3]]) (res := .one (.csl 1000001 1 0 2)) (res1 := .one (.csl 1000001 1 0 2)) (r := .one (.csl 300000 1 0 2)) (N := [(1, some (.cells (Command.cells a0))), (300000, some (.cells [.ptr 1 2, .ptr 1 3]))]) (by kernel_rfl) (readA_ow (readA_keep (by kernel_rfl) (readA_nil))) (by kernel_rfl) (by kernel_rfl) (by kernel_rfl) (by kernel_rfl) ((F56s0_ok n a0 r5 hr5).trans (congrArg some (F56s0_e_5 a0 r5 cr5))) (by kernel_rfl) (by kernel_rfl) (by kernel_rfl) rfl (by kernel_rfl) (by kernel_rfl) (by kernel_rfl))) ?_
                refine SimI.run 2 [(25, .one (li .i64 0)), (24, .one (li .i64 2))] [] (by kernel_rfl) ?_
                refine SimI.done (by kernel_rfl) ?_
                refine SimE.thenN ?_
                refine Sim.block ?_
                refine Sim.loop ?_
                refine SimL.succ ?_
                refine Sim.seq ?_
                refine Sim.region [(1, .one (.ptr 1 0)), (4, .one (ls ((r2 ++ r3) ++ r4))), (23, .one (.csl 300000 1 0 2)), (24, .one (li .i64 2)), (25, .one (li .i64 0))] [(1, some (.cells (Command.cells a0))), (300000, some (.cells [.ptr 1 2, .ptr 1 3]))] (by kernel_rfl) ?_
                refine SimI.run 1 [(26, .one (lb true))] [] (by kernel_rfl) ?_
                refine SimI.done (by kernel_rfl) ?_
                refine SimE.thenN ?_
                refine Sim.seq ?_
                refine Sim.condT (by kernel_rfl) ?_
                refine Sim.skip ?_
                refine SimE.thenN ?_
                refine Sim.seq ?_
                refine Sim.block ?_
                refine Sim.seq ?_
                refine Sim.region0 ?_
                refine SimI.run 3 [(6, .one (.ptr 1 2)), (28, .one (.ptr 1 2)), (27, .one (.ptr 300000 0))] [] (by kernel_rfl) ?_
                refine SimI.done (by kernel_rfl) ?_
                refine SimE.thenN ?_
                refine Sim.region0 ?_
                refine SimI.run 4 [(32, .one (li .i64 a0.Which)), (31, .one (.ptr 1 2)), (30, .one (.ptr 1 2)), (29, .one (ls ((r2 ++ r3) ++ r4)))] [] (by kernel_rfl) ?_
                refine SimI.bind (og := F45 n a0.Which) { dst := some 33, op := POp.call true [[]] 45 [Operand.tmp 32], guard := none, hints := [] } (fun r10 => [(33, .one (ls r10))]) (fun r10 => []) (by kernel_rfl) (fun r10 hr => pOp_eff (by kernel_rfl) (by kernel_rfl) (eff_call (ARGS := [.one (li .i64 a0.Which)]) (by kernel_rfl) (args_clean (by kernel_rfl) args_nil) (F45_ok n a0.Which r10 hr) (by kernel_rfl))) (fun r10 => ?_)
                refine SimI.guard (c := ((r2 ++ r3) ++ r4).size + r10.size ≤ 9223372036854775807) { dst := some 34, op := POp.prim (Prim.bin BinOp.add 9 false false) [Operand.tmp 29, Operand.tmp 33], guard := none, hints := [] } [(34, .one (ls (((r2 ++ r3) ++ r4) ++ r10)))] [] (by kernel_rfl) (fun hc => pOp_eff (by kernel_rfl) (by kernel_rfl) (eff_prim (by kernel_rfl) (pr_addS _ _ _ ((r2 ++ r3) ++ r4) r10 hc))) ?_
                refine SimI.run 1 [(4, .one (ls (((r2 ++ r3) ++ r4) ++ r10)))] [] (by kernel_rfl) ?_
                refine SimI.done (by kernel_rfl) ?_
                refine SimE.blockN ?_
                refine SimE.thenN ?_
                refine Sim.region0 ?_
                refine SimI.run 2 [(25, .one (li .i64 1)), (35, .one (li .i64 1))] [] (by kernel_rfl) ?_
                refine SimI.done (by kernel_rfl) ?_
                refine SimE.loopN ?_
                refine SimL.succ ?_
                refine Sim.seq ?_
                refine Sim.region [(1, .one (.ptr 1 0)), (4, .one (ls (((r2 ++ r3) ++ r4) ++ r10))), (23, .one (.csl 300000 1 0 2)), (24, .one (li .i64 2)), (25, .one (li .i64 1))] [(1, some (.cells (Command.cells a0))), (300000, some (.cells [.ptr 1 2, .ptr 1 3]))] (by kernel_rfl) ?_
                refine SimI.run 1 [(26, .one (lb true))] [] (by kernel_rfl) ?_
                refine SimI.done (by kernel_rfl) ?_
                refine SimE.thenN ?_
                refine Sim.seq ?_
                refine Sim.condT (by kernel_rfl) ?_
                refine Sim.skip ?_
                refine SimE.thenN ?_
                refine Sim.seq ?_
                refine Sim.block ?_
                refine Sim.seq ?_
                refine Sim.region0 ?_
                refine SimI.run 3 [(6, .one (.ptr 1 3)), (28, .one (.ptr 1 3)), (27, .one (.ptr 300000 1))] [] (by kernel_rfl) ?_
                refine SimI.done (by kernel_rfl) ?_
                refine SimE.thenN ?_
                refine Sim.region0 ?_
                refine SimI.run 4 [(32, .one (li .i64 a0.To)), (31, .one (.ptr 1 3)), (30, .one (.ptr 1 3)), (29, .one (ls (((r2 ++ r3) ++ r4) ++ r10)))] [] (by kernel_rfl) ?_
                refine SimI.bind (og := F45 n a0.To) { dst := some 33, op := POp.call true [[]] 45 [Operand.tmp 32], guard := none, hints := [] } (fun r11 => [(33, .one (ls r11))]) (fun r11 => []) (by kernel_rfl) (fun r11 hr => pOp_eff (by kernel_rfl) (by kernel_rfl) (eff_call (ARGS := [.one (li .i64 a0.To)]) (by kernel_rfl) (args_clean (by kernel_rfl) args_nil) (F45_ok n a0.To r11 hr) (by kernel_rfl))) (fun r11 => ?_)
                refine SimI.guard (c := (((r2 ++ r3) ++ r4) ++ r10).size + r11.size ≤ 9223372036854775807) { dst := some 34, op := POp.prim (Prim.bin BinOp.add 9 false false) [Operand.tmp 29, Operand.tmp 33], guard := none, hints := [] } [(34, .one (ls ((((r2 ++ r3) ++ r4) ++ r10) ++ r11)))] [] (by kernel_rfl) (fun hc => pOp_eff (by kernel_rfl) (by kernel_rfl) (eff_prim (by kernel_rfl) (pr_addS _ _ _ (((r2 ++ r3) ++ r4) ++ r10) r11 hc))) ?_
                refine SimI.run 1 [(4, .one (ls ((((r2 ++ r3) ++ r4) ++ r10) ++ r11)))] [] (by kernel_rfl) ?_
                refine SimI.done (by kernel_rfl) ?_
                refine SimE.blockN ?_
                refine SimE.thenN ?_
                refine Sim.region0 ?_
                refine SimI.run 2 [(25, .one (li .i64 2)), (35, .one (li .i64 2))] [] (by kernel_rfl) ?_
                refine SimI.done (by kernel_rfl) ?_
                refine SimE.loopN ?_
                refine SimL.succ ?_
                refine Sim.seq ?_
                refine Sim.region [(1, .one (.ptr 1 0)), (4, .one (ls ((((r2 ++ r3) ++ r4) ++ r10) ++ r11))), (23, .one (.csl 300000 1 0 2)), (24, .one (li .i64 2)), (25, .one (li .i64 2))] [(1, some (.cells (Command.cells a0))), (300000, some (.cells [.ptr 1 2, .ptr 1 3]))] (by kernel_rfl) ?_
                refine SimI.run 1 [(26, .one (lb false))] [] (by kernel_rfl) ?_
                refine SimI.done (by kernel_rfl) ?_
                refine SimE.thenN ?_
                refine Sim.seq ?_
                refine Sim.condF (by kernel_rfl) ?_
                refine Sim.exit ?_
                refine SimE.thenX ?_
                refine SimE.loopX ?_
                refine SimE.blockX ?_
                refine SimE.thenN ?_
                refine Sim.pre (ts := [1, 4]) (os := [1, 300000]) (ow := []) [(1, .one (.ptr 1 0)), (4, .one (ls ((((r2 ++ r3) ++ r4) ++ r10) ++ r11)))] [(1, some (.cells (Command.cells a0)))] (by kernel_rfl) (by kernel_rfl) (by kernel_rfl) ?_
                exact F34_j21_ok n a0 ((((r2 ++ r3) ++ r4) ++ r10) ++ r11)
              · refine SimI.ite (c := r5 = 6) (fun cr5 => ?_) (fun _ => ?_)
                · refine SimI.step { dst := some 23, op := POp.gcall false false [1, 300000, 300001, 300002, 300003, 300004, 300005, 300006, 300007] [[]] 56 [Operand.tmp 1], guard := none, hints := [] } [(23, .one (.csl 300000 1 0 4))] [(1, some (.cells (Command.cells a0))), (300000, some (.cells [.ptr 1 18, .ptr 1 19, .ptr 1 20, .ptr 1 21]))] (by kernel_rfl) (pOp_eff (by kernel_rfl) (by kernel_rfl) (eff_gcall (ks := [1]) (rks := []) (new := [300000]) (ARGS := [.one (.ptr 1 0)]) (args1 := [.one (.ptr 1 0)]) (args2 := [.one (.ptr 1000000 0)]) (os := [.cells (Command.cells a0)]) (os' := [.cells (Command.cells a0), .cells [.ptr 1000000 18, .ptr 1000000 19, .ptr 1000000 20, .ptr 1000000 21]]) (os1 := [.cells (Command.cells a0), .cells [.ptr 1000000 18, .ptr 1000000 19, .ptr 1000000 20, .ptr 1000000 21]]) (res := .one (.csl 1000001 1 0 4)) (res1 := .one (.csl 1000001 1 0 4)) (r := .one (.csl 300000 1 0 4)) (N := [(1, some (.cells (Command.cells a0))), (300000, some (.cells [.ptr 1 18, .ptr 1 19, .ptr 1 20, .ptr 1 21]))]) (by kernel_rfl) (readA_ow (readA_keep (by kernel_rfl) (readA_nil))) (by kernel_rfl) (by kernel_rfl) (by kernel_rfl) (by kernel_rfl) ((F56s0_ok n a0 r5 hr5).trans (congrArg some (F56s0_e_6 a0 r5 cr5))) (by kernel_rfl) (by kernel_rfl) (by kernel_rfl) rfl (by kernel_rfl) (by kernel_rfl) (by kernel_rfl))) ?_
                  refine SimI.run 2 [(25, .one (li .i64 0)), (24, .one (li .i64 4))] [] (by kernel_rfl) ?_
                  refine SimI.done (by kernel_rfl) ?_
                  refine SimE.thenN ?_
                  refine Sim.block ?_
                  refine Sim.loop ?_
                  refine SimL.succ ?_
                  refine Sim.seq ?_
                  refine Sim.region [(1, .one (.ptr 1 0)), (4, .one (ls ((r2 ++ r3) ++ r4))), (23, .one (.csl 300000 1 0 4)), (24, .one (li .i64 4)), (25, .one (li .i64 0))] [(1, some (.cells (Command.cells a0))), (300000, some (.cells [.ptr 1 18, .ptr 1 19, .ptr 1 20, .ptr 1 21]))] (by kernel_rfl) ?_
                  refine SimI.run 1 [(26, .one (lb true))] [] (by kernel_rfl) ?_
                  refine SimI.done (by kernel_rfl) ?_
                  refine SimE.thenN ?_
                  refine Sim.seq ?_
                  refine Sim.condT (by kernel_rfl) ?_
                  refine Sim.skip ?_
                  refine SimE.thenN ?_
                  refine Sim.seq ?_
                  refine Sim.block ?_
                  refine Sim.seq ?_
                  refine Sim.region0 ?_
                  refine SimI.run 3 [(6, .one (.ptr 1 18)), (28, .one (.ptr 1 18)), (27, .one (.ptr 300000 0))] [] (by kernel_rfl) ?_
                  refine SimI.done (by kernel_rfl) ?_
                  refine SimE.thenN ?_
                  refine Sim.region0 ?_
                  refine SimI.run 4 [(32, .one (li .i64 a0.Rect.X0)), (31, .one (.ptr 1 18)), (30, .one (.ptr 1 18)), (29, .one (ls ((r2 ++ r3) ++ r4)))] [] (by kernel_rfl) ?_
                  refine SimI.bind (og := F45 n a0.Rect.X0) { dst := some 33, op := POp.call true [[]] 45 [Operand.tmp 32], guard := none, hints := [] } (fun r6 => [(33, .one (ls r6))]) (fun r6 => []) (by kernel_rfl) (fun r6 hr => pOp_eff (by kernel_rfl) (by kernel_rfl) (eff_call (ARGS := [.one (li .i64 a0.Rect.X0)]) (by kernel_rfl) (args_clean (by kernel_rfl) args_nil) (F45_ok n a0.Rect.X0 r6 hr) (by kernel_rfl))) (fun r6 => ?_)
                  refine SimI.guard (c := ((r2 ++ r3) ++ r4).size + r6.size ≤ 9223372036854775807) { dst := some 34, op := POp.prim (Prim.bin BinOp.add 9 false false) [Operand.tmp 29, Operand.tmp 33], guard := none, hints := [] } [(34, .one (ls (((r2 ++ r3) ++ r4) ++ r6)))] [] (by kernel_rfl) (fun hc => pOp_eff (by kernel_rfl) (by kernel_rfl) (eff_prim (by kernel_rfl) (pr_addS _ _ _ ((r2 ++ r3) ++ r4) r6 hc))) ?_
                  refine SimI.run 1 [(4, .one (ls (((r2 ++ r3) ++ r4) ++ r6)))] [] (by kernel_rfl) ?_
                  refine SimI.done (by kernel_rfl) ?_
                  refine SimE.blockN ?_
                  refine SimE.thenN ?_
                  refine Sim.region0 ?_
                  refine SimI.run 2 [(25, .one (li .i64 1)), (35, .one (li .i64 1))] [] (by kernel_rfl) ?_
                  refine SimI.done (by kernel_rfl) ?_
                  refine SimE.loopN ?_
                  refine SimL.succ ?_
                  refine Sim.seq ?_
                  refine Sim.region [(1, .one (.ptr 1 0)), (4, .one (ls (((r2 ++ r3) ++ r4) ++ r6))), (23, .one (.csl 300000 1 0 4)), (24, .one (li .i64 4)), (25, .one (li .i64 1))] [(1, some (.cells (Command.cells a0))), (300000, some (.cells [.ptr 1 18, .ptr 1 19, .ptr 1 20, .ptr 1 21]))] (by kernel_rfl) ?_
                  refine SimI.run 1 [(26, .one (lb true))] [] (by kernel_rfl) ?_
                  refine SimI.done (by kernel_rfl) ?_
                  refine SimE.thenN ?_
                  refine Sim.seq ?_
                  refine Sim.condT (by kernel_rfl) ?_
                  refine Sim.skip ?_
                  refine SimE.thenN ?_
                  refine Sim.seq ?_
                  refine Sim.block ?_
                  refine Sim.seq ?_
                  refine Sim.region0 ?_
                  refine SimI.run 3 [(6, .one (.ptr 1 19)), (28, .one (.ptr 1 19)), (27, .one (.ptr 300000 1))] [] (by kernel_rfl) ?_
                  refine SimI.done (by kernel_rfl) ?_
                  refine SimE.thenN ?_
                  refine Sim.region0 ?_
                  refine SimI.run 4 [(32, .one (li .i64 a0.Rect.Y0)), (31, .one (.ptr 1 19)), (30, .one (.ptr 1 19)), (29, .one (ls (((r2 ++ r3) ++ r4) ++ r6)))] [] (by kernel_rfl) ?_
                  refine SimI.bind (og := F45 n a0.Rect.Y0) { dst := some 33, op := POp.call true [[]] 45 [Operand.tmp 32], guard := none, hints := [] } (fun r7 => [(33, .one (ls r7))]) (fun r7 => []) (by kernel_rfl) (fun r7 hr => pOp_eff (by kernel_rfl) (by kernel_rfl) (eff_call (ARGS := [.one (li .i64 a0.Rect.Y0)]) (by kernel_rfl) (args_clean (by kernel_rfl) args_nil) (F45_ok n a0.Rect.Y0 r7 hr) (by kernel_rfl))) (fun r7 => ?_)
                  refine SimI.guard (c := (((r2 ++ r3) ++ r4) ++ r6).size + r7.size ≤ 9223372036854775807) { dst := some 34, op := POp.prim (Prim.bin BinOp.add 9 false false) [Operand.tmp 29, Operand.tmp 33], guard := none, hints := [] } [(34, .one (ls ((((r2 ++ r3) ++ r4) ++ r6) ++ r7)))] [] (by kernel_rfl) (fun hc => pOp_eff (by kernel_rfl) (by kernel_rfl) (eff_prim (by kernel_rfl) (pr_addS _ _ _ (((r2 ++ r3) ++ r4) ++ r6) r7 hc))) ?_
                  refine SimI.run 1 [(4, .one (ls ((((r2 ++ r3) ++ r4) ++ r6) ++ r7)))] [] (by kernel_rfl) ?_
                  refine SimI.done (by kernel_rfl) ?_
                  refine SimE.blockN ?_
                  refine SimE.thenN ?_
                  refine Sim.region0 ?_
                  refine SimI.run 2 [(25, .one (li .i64 2)), (35, .one (li .i64 2))] [] (by kernel_rfl) ?_
                  refine SimI.done (by kernel_rfl) ?_
                  refine SimE.loopN ?_
                  refine SimL.succ ?_
                  refine Sim.seq ?_
                  refine Sim.region [(1, .one (.ptr 1 0)), (4, .one (ls ((((r2 ++ r3) ++ r4) ++ r6) ++ r7))), (23, .one (.csl 300000 1 0 4)), (24, .one (li .i64 4)), (25, .one (li .i64 2))] [(1, some (.cells (Command.cells a0))), (300000, some (.cells [.ptr 1 18, .ptr 1 19, .ptr 1 20, .ptr 1 21]))] (by kernel_rfl) ?_
                  refine SimI.run 1 [(26, .one (lb true))] [] (by kernel_rfl) ?_
                  refine SimI.done (by kernel_rfl) ?_
                  refine SimE.thenN ?_
                  refine Sim.seq ?_
                  refine Sim.condT (by kernel_rfl) ?_
                  refine Sim.skip ?_
                  refine SimE.thenN ?_
                  refine Sim.seq ?_
                  refine Sim.block ?_
                  refine Sim.seq ?_
                  refine Sim.region0 ?_
                  refine SimI.run 3 [(6, .one (.ptr 1 20)), (28, .one (.ptr 1 20)), (27, .one (.ptr 300000 2))] [] (by kernel_rfl) ?_
                  refine SimI.done (by kernel_rfl) ?_
                  refine SimE.thenN ?_
                  refine Sim.region0 ?_
                  refine SimI.run 4 [(32, .one (li .i64 a0.Rect.X1)), (31, .one (.ptr 1 20)), (30, .one (.ptr 1 20)), (29, .one (ls ((((r2 ++ r3) ++ r4) ++ r6) ++ r7)))] [] (by kernel_rfl) ?_
                  refine SimI.bind (og := F45 n a0.Rect.X1) { dst := some 33, op := POp.call true [[]] 45 [Operand.tmp 32], guard := none, hints := [] } (fun r8 => [(33, .one (ls r8))]) (fun r8 => []) (by kernel_rfl) (fun r8 hr => pOp_eff (by kernel_rfl) (by kernel_rfl) (eff_call (ARGS := [.one (li .i64 a0.Rect.X1)]) (by kernel_rfl) (args_clean (by kernel_rfl) args_nil) (F45_ok n a0.Rect.X1 r8 hr) (by kernel_rfl))) (fun r8 => ?_)
                  refine SimI.guard (c := ((((r2 ++ r3) ++ r4) ++ r6) ++ r7).size + r8.size ≤ 9223372036854775807) { dst := some 34, op := POp.prim (Prim.bin BinOp.add 9 false false) [Operand.tmp 29, Operand.tmp 33], guard := none, hints := [] } [(34, .one (ls (((((r2 ++ r3) ++ r4) ++ r6) ++ r7) ++ r8)))] [] (by kernel_rfl) (fun hc => pOp_eff (by kernel_rfl) (by kernel_rfl) (eff_prim (by kernel_rfl) (pr_addS _ _ _ ((((r2 ++ r3) ++ r4) ++ r6) ++ r7) r8 hc))) ?_
                  refine SimI.run 1 [(4, .one (ls (((((r2 ++ r3) ++ r4) ++ r6) ++ r7) ++ r8)))] [] (by kernel_rfl) ?_
                  refine SimI.done (by kernel_rfl) ?_
                  refine SimE.blockN ?_
                  refine SimE.thenN ?_
                  refine Sim.region0 ?_
                  refine SimI.run 2 [(25, .one (li .i64 3)), (35, .one (li .i64 3))] [] (by kernel_rfl) ?_
                  refine SimI.done (by kernel_rfl) ?_
                  refine SimE.loopN ?_
                  refine SimL.succ ?_
                  refine Sim.seq ?_
                  refine Sim.region [(1, .one (.ptr 1 0)), (4, .one (ls (((((r2 ++ r3) ++ r4) ++ r6) ++ r7) ++ r8))), (23, .one (.csl 300000 1 0 4)), (24, .one (li .i64 4)), (25, .one (li .i64 3))] [(1, some (.cells (Command.cells a0))), (300000, some (.cells [.ptr 1 18, .ptr 1 19, .ptr 1 20, .ptr 1 21]))] (by kernel_rfl) ?_
                  refine SimI.run 1 [(26, .one (lb true))] [] (by kernel_rfl) ?_
                  refine SimI.done (by kernel_rfl) ?_
                  refine SimE.thenN ?_
                  refine Sim.seq ?_
                  refine Sim.condT (by kernel_rfl) ?_
                  refine Sim.skip ?_
                  refine SimE.thenN ?_
                  refine Sim.seq ?_
                  refine Sim.block ?_
                  refine Sim.seq ?_
                  refine Sim.region0 ?_
                  refine SimI.run 3 [(6, .one (.ptr 1 21)), (28, .one (.ptr 1 21)), (27, .one (.ptr 300000 3))] [] (by kernel_rfl) ?_
                  refine SimI.done (by kernel_rfl) ?_
                  refine SimE.thenN ?_
                  refine Sim.region0 ?_
                  refine SimI.run 4 [(32, .one (li .i64 a0.Rect.Y1)), (31, .one (.ptr 1 21)), (30, .one (.ptr 1 21)), (29, .one (ls (((((r2 ++ r3) ++ r4) ++ r6) ++ r7) ++ r8)))] [] (by kernel_rfl) ?_
                  refine SimI.bind (og := F45 n a0.Rect.Y1) { dst := some 33, op := POp.call true [[]] 45 [Operand.tmp 32], guard := none, hints := [] } (fun r9 => [(33, .one (ls r9))]) (fun r9 => []) (by kernel_rfl) (fun r9 hr => pOp_eff (by kernel_rfl) (by kernel_rfl) (eff_call (ARGS := [.one (li .i64 a0.Rect.Y1)]) (by kernel_rfl) (args_clean (by kernel_rfl) args_nil) (F45_ok n a0.Rect.Y1 r9 hr) (by kernel_rfl))) (fun r9 => ?_)
                  refine SimI.guard (c := (((((r2 ++ r3) ++ r4) ++ r6) ++ r7) ++ r8).size + r9.size ≤ 9223372036854775807) { dst := some 34, op := POp.prim (Prim.bin BinOp.add 9 false false) [Operand.tmp 29, Operand.tmp 33], guard := none, hints := [] } [(34, .one (ls ((((((r2 ++ r3) ++ r4) ++ r6) ++ r7) ++ r8) ++ r9)))] [] (by kernel_rfl) (fun hc => pOp_eff (by kernel_rfl) (by kernel_rfl) (eff_prim (by kernel_rfl) (pr_addS _ _ _ (((((r2 ++ r3) ++ r4) ++ r6) ++ r7) ++ r8) r9 hc))) ?_
                  refine SimI.run 1 [(4, .one (ls ((((((r2 ++ r3) ++ r4) ++ r6) ++ r7) ++ r8) ++ r9)))] [] (by kernel_rfl) ?_
                  refine SimI.done (by kernel_rfl) ?_
                  refine SimE.blockN ?_
                  refine SimE.thenN ?_
                  refine Sim.region0 ?_
                  refine SimI.run 2 [(25, .one (li .i64 4)), (35, .one (li .i64 4))] [] (by kernel_rfl) ?_
                  refine SimI.done (by kernel_rfl) ?_
                  refine SimE.loopN ?_
                  refine SimL.succ ?_
                  refine Sim.seq ?_
                  refine Sim.region [(1, .one (.ptr 1 0)), (4, .one (ls ((((((r2 ++ r3) ++ r4) ++ r6) ++ r7) ++ r8) ++ r9))), (23, .one (.csl 300000 1 0 4)), (24, .one (li .i64 4)), (25, .one (li .i64 4))] [(1, some (.cells (Command.cells a0))), (300000, some (.cells [.ptr 1 18, .ptr 1 19, .ptr 1 20, .ptr 1 21]))] (by kernel_rfl) ?_
                  refine SimI.run 1 [(26, .one (lb false))] [] (by kernel_rfl) ?_
                  refine SimI.done (by kernel_rfl) ?_
                  refine SimE.thenN ?_
                  refine Sim.seq ?_
                  refine Sim.condF (by kernel_rfl) ?_
                  refine Sim.exit ?_
                  refine SimE.thenX ?_
                  refine SimE.loopX ?_
                  refine SimE.blockX ?_
                  refine SimE.thenN ?_
                  refine Sim.pre (ts := [1, 4]) (os := [1, 300000]) (ow := []) [(1, .one (.ptr 1 0)), (4, .one (ls ((((((r2 ++ r3) ++ r4) ++ r6) ++ r7) ++ r8) ++ r9)))] [(1, some (.cells (Command.cells a0)))] (by kernel_rfl) (by kernel_rfl) (by kernel_rfl) ?_
                  exact F34_j21_ok n a0 ((((((r2 ++ r3) ++ r4) ++ r6) ++ r7) ++ r8) ++ r9)
                · exact SimI.vac rfl


-- 37: vedette/cmd.Watches
def F37_e : Bool → PV × List Ob := fun r => (.one (lb r), [])
def F37 (n : Nat) (a0 : Command) : Option Bool :=
  if decide ((6 : Int) ≤ a0.Kind) then
    some (decide (a0.Kind ≤ 8))
  else
    some false
theorem F37_ok (n : Nat) (a0 : Command) : ∀ r, F37 n a0 = some r → D 37 [.agg (Command.cells a0)] [] = some (F37_e r) := by
  refine fn_to (D := D) (n := n + 8) (nt := 11) (rs := pc37_r) (c := pc37_c5) (L := [(0, .agg (Command.cells a0))]) (M := []) (k := 0) rfl rfl rfl rfl rfl rfl rfl ?_
  unfold F37
  refine Sim.seq ?_
  refine Sim.region0 ?_
  refine SimI.run 2 [(2, .one (lb false)), (1, .one (.ptr 1 0))] [(1, some (.cells (Command.cells a0)))] (by kernel_rfl) ?_
  refine SimI.done (by kernel_rfl) ?_
  refine SimE.thenN ?_
  refine Sim.seq ?_
  refine Sim.region0 ?_
  refine SimI.run 4 [(6, .one (lb (decide ((6 : Int) ≤ a0.Kind)))), (5, .one (lb (decide ((6 : Int) ≤ a0.Kind)))), (4, .one (li .i64 a0.Kind)), (3, .one (.ptr 1 0))] [] (by kernel_rfl) ?_
  refine SimI.split 6 (decide ((6 : Int) ≤ a0.Kind)) (by kernel_rfl) ?_ ?_
  · refine SimI.run 5 [(2, .one (lb (decide (a0.Kind ≤ 8)))), (10, .one (lb (decide (a0.Kind ≤ 8)))), (9, .one (lb (decide (a0.Kind ≤ 8)))), (8, .one (li .i64 a0.Kind)), (7, .one (.ptr 1 0))] [] (by kernel_rfl) ?_
    refine SimI.done (by kernel_rfl) ?_
    refine SimE.thenN ?_
    refine Sim.ret ?_
    exact SimE.fin (by kernel_rfl)
  · refine SimI.run 5 [(2, .one (lb false)), (10, .one (lb false)), (9, .tup []), (8, .tup []), (7, .tup [])] [] (by kernel_rfl) ?_
    refine SimI.done (by kernel_rfl) ?_
    refine SimE.thenN ?_
    refine Sim.ret ?_
    exact SimE.fin (by kernel_rfl)


-- 39: vedette/cmd.Same
def F39_e : Bool → PV × List Ob := fun r => (.one (lb r), [])
def F39 (n : Nat) (a0 : Command) (a1 : Command) : Option Bool :=
  some (Command.eqb a0 a1)
theorem F39_ok (n : Nat) (a0 : Command) (a1 : Command) : ∀ r, F39 n a0 a1 = some r → D 39 [.agg (Command.cells a0), .agg (Command.cells a1)] [] = some (F39_e r) := by
  refine fn_to (D := D) (n := n + 8) (nt := 8) (rs := pc39_r) (c := pc39_c5) (L := [(0, .agg (Command.cells a0)), (1, .agg (Command.cells a1))]) (M := []) (k := 0) rfl rfl rfl rfl rfl rfl rfl ?_
  unfold F39
  refine Sim.seq ?_
  refine Sim.region0 ?_
  refine SimI.run 3 [(4, .one (lb false)), (3, .one (.ptr 3 0)), (2, .one (.ptr 2 0))] [(3, some (.cells (Command.cells a1))), (2, some (.cells (Command.cells a0)))] (by kernel_rfl) ?_
  refine SimI.done (by kernel_rfl) ?_
  refine SimE.thenN ?_
  refine Sim.seq ?_
  refine Sim.region0 ?_
  refine SimI.run 2 [(6, .agg (Command.cells a1)), (5, .agg (Command.cells a0))] [] (by kernel_rfl) ?_
  refine SimI.step { dst := some 7, op := POp.prim (Prim.bin BinOp.eql 57 false false) [Operand.tmp 5, Operand.tmp 6], guard := none, hints := [] } [(7, .one (lb (Command.eqb a0 a1)))] [] (by kernel_rfl) (pOp_eff (by kernel_rfl) (by kernel_rfl) (eff_prim (by kernel_rfl) (Command_eql a0 a1 _ _))) ?_
  refine SimI.run 1 [(4, .one (lb (Command.eqb a0 a1)))] [] (by kernel_rfl) ?_
  refine SimI.done (by kernel_rfl) ?_
  refine SimE.thenN ?_
  refine Sim.ret ?_
  exact SimE.fin (by kernel_rfl)


-- 70: vedette/num.Get
def F70_e : (Int × Int × Int) → PV × List Ob := fun r => (.tup [.one (li .u64 r.1), .one (li .i64 r.2.1), .one (li .i64 r.2.2)], [])
def F70_j13 (n : Nat) (i11 : Int) (i12 : Int) : Option (Int × Int × Int) :=
    if i12 == 0 then
      some (0, 0, 10)
    else
      some (i11, i12, 0)
theorem F70_j13_ok (n : Nat) (i11 : Int) (i12 : Int) : Sim Try.prog D (n + 8) pc70_c51 [(5, .one (li .u64 i11)), (6, .one (li .i64 i12))] [] (F70_j13 n i11 i12) (QF false pc70_r 0 F70_e) := by
    unfold F70_j13
    refine Sim.seq ?_
    refine Sim.seq ?_
    refine Sim.region [(5, .one (li .u64 i11)), (6, .one (li .i64 i12))] [] (by kernel_rfl) ?_
    refine SimI.run 2 [(52, .one (lb (i12 == 0))), (51, .one (li .i64 i12))] [] (by kernel_rfl) ?_
    refine SimI.done (by kernel_rfl) ?_
    refine SimE.thenN ?_
    refine Sim.cond (i12 == 0) (by kernel_rfl) ?_ ?_
    · refine Sim.seq ?_
      refine Sim.region0 ?_
      refine SimI.run 3 [(4, .one (li .i64 10)), (3, .one (li .i64 0)), (2, .one (li .u64 0))] [] (by kernel_rfl) ?_
      refine SimI.done (by kernel_rfl) ?_
      refine SimE.thenN ?_
      refine Sim.ret ?_
      refine SimE.thenR ?_
      exact SimE.fin (by kernel_rfl)
    · refine Sim.skip ?_
      refine SimE.thenN ?_
      refine Sim.seq ?_
      refine Sim.region0 ?_
      refine SimI.run 5 [(4, .one (li .i64 0)), (3, .one (li .i64 i12)), (2, .one (li .u64 i11)), (54, .one (li .i64 i12)), (53, .one (li .u64 i11))] [] (by kernel_rfl) ?_
      refine SimI.done (by kernel_rfl) ?_
      refine SimE.thenN ?_
      refine Sim.ret ?_
      exact SimE.fin (by kernel_rfl)

def F70_j10 (n : Nat) (i5 : Int) (i6 : Int) (x8 : Int) (rec_l7 : Int → Int → Option (Int × Int × Int)) : Option (Int × Int × Int) :=
    if decide (x8 < 128) then
      if ¬ (IntKind.wrap .i64 (7 * i6) < 0) then
        F70_j13 n (bitsI .or .u64 i5 (shlI .u64 (IntKind.wrap .u64 x8) (IntKind.wrap .i64 (7 * i6)))) (IntKind.wrap .i64 (i6 + 1))
      else none
    else
      if ¬ (IntKind.wrap .i64 (7 * i6) < 0) then
        rec_l7 (bitsI .or .u64 i5 (shlI .u64 (IntKind.wrap .u64 (bitsI .andNot .u8 x8 128)) (IntKind.wrap .i64 (7 * i6)))) (IntKind.wrap .i64 (i6 + 1))
      else none
theorem F70_j10_ok (n : Nat) (a0 : ByteArray) (i5 : Int) (i6 : Int) (x8 : Int) (rec_l7 : Int → Int → Option (Int × Int × Int)) (m_l7 : Nat) (ih_l7 : ∀ (i5 : Int) (i6 : Int), SimL Try.prog D (n + 8) m_l7 pc70_c37 [(5, .one (li .u64 i5)), (6, .one (li .i64 0)), (10, .one (vw (codI .u8) (bytesL a0))), (11, .one (li .i64 ((bytesL a0).length : Int))), (12, .one (li .i64 i6))] [] (rec_l7 i5 i6) (QB 0 (QT Try.prog D (n + 8) pc70_c51 (QF false pc70_r 0 F70_e)))) : Sim Try.prog D (n + 8) pc70_c26 [(5, .one (li .u64 i5)), (6, .one (li .i64 0)), (7, .one (li .i64 i6)), (8, .one (li .u8 x8)), (10, .one (vw (codI .u8) (bytesL a0))), (11, .one (li .i64 ((bytesL a0).length : Int))), (12, .one (li .i64 i6))] [] (F70_j10 n i5 i6 x8 rec_l7) (QB 2 (QT Try.prog D (n + 8) pc70_c30 (QB 1 (QT Try.prog D (n + 8) pc70_c34 (QL Try.prog D (n + 8) m_l7 pc70_c37 (QB 0 (QT Try.prog D (n + 8) pc70_c51 (QF false pc70_r 0 F70_e)))))))) := by
    unfold F70_j10
    refine Sim.seq ?_
    refine Sim.region [(5, .one (li .u64 i5)), (6, .one (li .i64 0)), (7, .one (li .i64 i6)), (8, .one (li .u8 x8)), (10, .one (vw (codI .u8) (bytesL a0))), (11, .one (li .i64 ((bytesL a0).length : Int))), (12, .one (li .i64 i6))] [] (by kernel_rfl) ?_
    refine SimI.run 3 [(30, .one (lb (decide (x8 < 128)))), (32, .one (lb (decide (x8 < 128)))), (31, .one (li .u8 x8))] [] (by kernel_rfl) ?_
    refine SimI.done (by kernel_rfl) ?_
    refine SimE.thenN ?_
    refine Sim.cond (decide (x8 < 128)) (by kernel_rfl) ?_ ?_
    · refine Sim.seq ?_
      refine Sim.region0 ?_
      refine SimI.run 5 [(37, .one (li .i64 (IntKind.wrap .i64 (7 * i6)))), (36, .one (li .i64 i6)), (35, .one (li .u64 (IntKind.wrap .u64 x8))), (34, .one (li .u8 x8)), (33, .one (li .u64 i5))] [] (by kernel_rfl) ?_
      refine SimI.guard (c := ¬ (IntKind.wrap .i64 (7 * i6) < 0)) { dst := some 38, op := POp.prim (Prim.bin BinOp.shl 70 false false) [Operand.tmp 35, Operand.tmp 37], guard := none, hints := [] } [(38, .one (li .u64 (shlI .u64 (IntKind.wrap .u64 x8) (IntKind.wrap .i64 (7 * i6)))))] [] (by kernel_rfl) (fun hc => pOp_eff (by kernel_rfl) (by kernel_rfl) (eff_prim (by kernel_rfl) (pr_shl _ _ _ .u64 .i64 (IntKind.wrap .u64 x8) (IntKind.wrap .i64 (7 * i6)) hc))) ?_
      refine SimI.run 2 [(5, .one (li .u64 (bitsI .or .u64 i5 (shlI .u64 (IntKind.wrap .u64 x8) (IntKind.wrap .i64 (7 * i6)))))), (39, .one (li .u64 (bitsI .or .u64 i5 (shlI .u64 (IntKind.wrap .u64 x8) (IntKind.wrap .i64 (7 * i6))))))] [] (by kernel_rfl) ?_
      refine SimI.done (by kernel_rfl) ?_
      refine SimE.thenN ?_
      refine Sim.seq ?_
      refine Sim.region0 ?_
      refine SimI.run 3 [(6, .one (li .i64 (IntKind.wrap .i64 (i6 + 1)))), (41, .one (li .i64 (IntKind.wrap .i64 (i6 + 1)))), (40, .one (li .i64 i6))] [] (by kernel_rfl) ?_
      refine SimI.done (by kernel_rfl) ?_
      refine SimE.thenN ?_
      refine Sim.exit ?_
      refine SimE.blockY rfl ?_
      refine SimE.thenX ?_
      refine SimE.blockY rfl ?_
      refine SimE.thenX ?_
      refine SimE.loopX ?_
      refine SimE.blockX ?_
      refine SimE.thenN ?_
      refine Sim.pre (ts := [5, 6]) (os := []) (ow := []) [(5, .one (li .u64 (bitsI .or .u64 i5 (shlI .u64 (IntKind.wrap .u64 x8) (IntKind.wrap .i64 (7 * i6)))))), (6, .one (li .i64 (IntKind.wrap .i64 (i6 + 1))))] [] (by kernel_rfl) (by kernel_rfl) (by kernel_rfl) ?_
      exact F70_j13_ok n (bitsI .or .u64 i5 (shlI .u64 (IntKind.wrap .u64 x8) (IntKind.wrap .i64 (7 * i6)))) (IntKind.wrap .i64 (i6 + 1))
    · refine Sim.skip ?_
      refine SimE.blockN ?_
      refine SimE.thenN ?_
      refine Sim.region0 ?_
      refine SimI.run 6 [(47, .one (li .i64 (IntKind.wrap .i64 (7 * i6)))), (46, .one (li .i64 i6)), (45, .one (li .u64 (IntKind.wrap .u64 (bitsI .andNot .u8 x8 128)))), (44, .one (li .u8 (bitsI .andNot .u8 x8 128))), (43, .one (li .u8 x8)), (42, .one (li .u64 i5))] [] (by kernel_rfl) ?_
      refine SimI.guard (c := ¬ (IntKind.wrap .i64 (7 * i6) < 0)) { dst := some 48, op := POp.prim (Prim.bin BinOp.shl 70 false false) [Operand.tmp 45, Operand.tmp 47], guard := none, hints := [] } [(48, .one (li .u64 (shlI .u64 (IntKind.wrap .u64 (bitsI .andNot .u8 x8 128)) (IntKind.wrap .i64 (7 * i6)))))] [] (by kernel_rfl) (fun hc => pOp_eff (by kernel_rfl) (by kernel_rfl) (eff_prim (by kernel_rfl) (pr_shl _ _ _ .u64 .i64 (IntKind.wrap .u64 (bitsI .andNot .u8 x8 128)) (IntKind.wrap .i64 (7 * i6)) hc))) ?_
      refine SimI.run 2 [(5, .one (li .u64 (bitsI .or .u64 i5 (shlI .u64 (IntKind.wrap .u64 (bitsI .andNot .u8 x8 128)) (IntKind.wrap .i64 (7 * i6)))))), (49, .one (li .u64 (bitsI .or .u64 i5 (shlI .u64 (IntKind.wrap .u64 (bitsI .andNot .u8 x8 128)) (IntKind.wrap .i64 (7 * i6))))))] [] (by kernel_rfl) ?_
      refine SimI.done (by kernel_rfl) ?_
      refine SimE.blockN ?_
      refine SimE.thenN ?_
      refine Sim.region0 ?_
      refine SimI.run 2 [(12, .one (li .i64 (IntKind.wrap .i64 (i6 + 1)))), (50, .one (li .i64 (IntKind.wrap .i64 (i6 + 1))))] [] (by kernel_rfl) ?_
      refine SimI.done (by kernel_rfl) ?_
      refine SimE.loopN ?_
      refine SimL.pre (ts := [5, 6, 10, 11, 12]) (os := []) (ow := []) [(5, .one (li .u64 (bitsI .or .u64 i5 (shlI .u64 (IntKind.wrap .u64 (bitsI .andNot .u8 x8 128)) (IntKind.wrap .i64 (7 * i6)))))), (6, .one (li .i64 0)), (10, .one (vw (codI .u8) (bytesL a0))), (11, .one (li .i64 ((bytesL a0).length : Int))), (12, .one (li .i64 (IntKind.wrap .i64 (i6 + 1))))] [] (by kernel_rfl) (by kernel_rfl) (by kernel_rfl) ?_
      exact ih_l7 (bitsI .or .u64 i5 (shlI .u64 (IntKind.wrap .u64 (bitsI .andNot .u8 x8 128)) (IntKind.wrap .i64 (7 * i6)))) (IntKind.wrap .i64 (i6 + 1))

def F70_j9 (n : Nat) (i5 : Int) (i6 : Int) (x8 : Int) (rec_l7 : Int → Int → Option (Int × Int × Int)) : Option (Int × Int × Int) :=
    if decide ((0 : Int) < i6) then
      if x8 == 0 then
        some (0, 0, 11)
      else
        F70_j10 n i5 i6 x8 rec_l7
    else
      F70_j10 n i5 i6 x8 rec_l7
theorem F70_j9_ok (n : Nat) (a0 : ByteArray) (i5 : Int) (i6 : Int) (x8 : Int) (rec_l7 : Int → Int → Option (Int × Int × Int)) (m_l7 : Nat) (ih_l7 : ∀ (i5 : Int) (i6 : Int), SimL Try.prog D (n + 8) m_l7 pc70_c37 [(5, .one (li .u64 i5)), (6, .one (li .i64 0)), (10, .one (vw (codI .u8) (bytesL a0))), (11, .one (li .i64 ((bytesL a0).length : Int))), (12, .one (li .i64 i6))] [] (rec_l7 i5 i6) (QB 0 (QT Try.prog D (n + 8) pc70_c51 (QF false pc70_r 0 F70_e)))) : Sim Try.prog D (n + 8) pc70_c12 [(5, .one (li .u64 i5)), (6, .one (li .i64 0)), (7, .one (li .i64 i6)), (8, .one (li .u8 x8)), (10, .one (vw (codI .u8) (bytesL a0))), (11, .one (li .i64 ((bytesL a0).length : Int))), (12, .one (li .i64 i6))] [] (F70_j9 n i5 i6 x8 rec_l7) (QT Try.prog D (n + 8) pc70_c27 (QB 2 (QT Try.prog D (n + 8) pc70_c30 (QB 1 (QT Try.prog D (n + 8) pc70_c34 (QL Try.prog D (n + 8) m_l7 pc70_c37 (QB 0 (QT Try.prog D (n + 8) pc70_c51 (QF false pc70_r 0 F70_e))))))))) := by
    unfold F70_j9
    refine Sim.region [(5, .one (li .u64 i5)), (6, .one (li .i64 0)), (7, .one (li .i64 i6)), (8, .one (li .u8 x8)), (10, .one (vw (codI .u8) (bytesL a0))), (11, .one (li .i64 ((bytesL a0).length : Int))), (12, .one (li .i64 i6))] [] (by kernel_rfl) ?_
    refine SimI.run 3 [(26, .one (lb (decide ((0 : Int) < i6)))), (25, .one (lb (decide ((0 : Int) < i6)))), (24, .one (li .i64 i6))] [] (by kernel_rfl) ?_
    refine SimI.split 26 (decide ((0 : Int) < i6)) (by kernel_rfl) ?_ ?_
    · refine SimI.run 4 [(17, .one (lb (x8 == 0))), (29, .one (lb (x8 == 0))), (28, .one (lb (x8 == 0))), (27, .one (li .u8 x8))] [] (by kernel_rfl) ?_
      refine SimI.done (by kernel_rfl) ?_
      refine SimE.thenN ?_
      refine Sim.cond (x8 == 0) (by kernel_rfl) ?_ ?_
      · refine Sim.seq ?_
        refine Sim.region0 ?_
        refine SimI.run 3 [(4, .one (li .i64 11)), (3, .one (li .i64 0)), (2, .one (li .u64 0))] [] (by kernel_rfl) ?_
        refine SimI.done (by kernel_rfl) ?_
        refine SimE.thenN ?_
        refine Sim.ret ?_
        refine SimE.blockR ?_
        refine SimE.thenR ?_
        refine SimE.blockR ?_
        refine SimE.thenR ?_
        refine SimE.loopR ?_
        refine SimE.blockR ?_
        refine SimE.thenR ?_
        exact SimE.fin (by kernel_rfl)
      · refine Sim.pre (ts := [5, 6, 7, 8, 10, 11, 12]) (os := []) (ow := []) [(5, .one (li .u64 i5)), (6, .one (li .i64 0)), (7, .one (li .i64 i6)), (8, .one (li .u8 x8)), (10, .one (vw (codI .u8) (bytesL a0))), (11, .one (li .i64 ((bytesL a0).length : Int))), (12, .one (li .i64 i6))] [] (by kernel_rfl) (by kernel_rfl) (by kernel_rfl) ?_
        exact F70_j10_ok n a0 i5 i6 x8 rec_l7 m_l7 ih_l7
    · refine SimI.run 4 [(17, .one (lb false)), (29, .one (lb false)), (28, .tup []), (27, .tup [])] [] (by kernel_rfl) ?_
      refine SimI.done (by kernel_rfl) ?_
      refine SimE.thenN ?_
      refine Sim.condF (by kernel_rfl) ?_
      refine Sim.pre (ts := [5, 6, 7, 8, 10, 11, 12]) (os := []) (ow := []) [(5, .one (li .u64 i5)), (6, .one (li .i64 0)), (7, .one (li .i64 i6)), (8, .one (li .u8 x8)), (10, .one (vw (codI .u8) (bytesL a0))), (11, .one (li .i64 ((bytesL a0).length : Int))), (12, .one (li .i64 i6))] [] (by kernel_rfl) (by kernel_rfl) (by kernel_rfl) ?_
      exact F70_j10_ok n a0 i5 i6 x8 rec_l7 m_l7 ih_l7

def F70_l7 (n : Nat) (a0 : ByteArray) : Nat → Int → Int → Option (Int × Int × Int)
  | 0, _, _ => none
  | m + 1, i5, i6 =>
    if decide (i6 < ((bytesL a0).length : Int)) then
      (ix (bytesL a0) i6).bind fun (x8 : Int) =>
      if i6 == 9 then
        if decide ((1 : Int) < x8) then
          if decide ((1 : Int) < x8) then
            some (0, 0, 11)
          else
            F70_j10 n i5 i6 x8 (F70_l7 n a0 m)
        else
          F70_j9 n i5 i6 x8 (F70_l7 n a0 m)
      else
        F70_j9 n i5 i6 x8 (F70_l7 n a0 m)
    else
      F70_j13 n i5 0
theorem F70_l7_ok (n : Nat) (a0 : ByteArray) : ∀ (m : Nat) (i5 : Int) (i6 : Int), SimL Try.prog D (n + 8) m pc70_c37 [(5, .one (li .u64 i5)), (6, .one (li .i64 0)), (10, .one (vw (codI .u8) (bytesL a0))), (11, .one (li .i64 ((bytesL a0).length : Int))), (12, .one (li .i64 i6))] [] (F70_l7 n a0 m i5 i6) (QB 0 (QT Try.prog D (n + 8) pc70_c51 (QF false pc70_r 0 F70_e))) := by
  intro m_l7
  induction m_l7 with
  | zero => intro i5 i6; exact SimL.zero'  rfl
  | succ m_l7 ih_l7 =>
    intro i5 i6
    refine SimL.succ ?_
    unfold F70_l7
    refine Sim.seq ?_
    refine Sim.region [(5, .one (li .u64 i5)), (6, .one (li .i64 0)), (10, .one (vw (codI .u8) (bytesL a0))), (11, .one (li .i64 ((bytesL a0).length : Int))), (12, .one (li .i64 i6))] [] (by kernel_rfl) ?_
    refine SimI.run 1 [(13, .one (lb (decide (i6 < ((bytesL a0).length : Int)))))] [] (by kernel_rfl) ?_
    refine SimI.done (by kernel_rfl) ?_
    refine SimE.thenN ?_
    refine Sim.seq ?_
    refine Sim.cond (decide (i6 < ((bytesL a0).length : Int))) (by kernel_rfl) ?_ ?_
    · refine Sim.skip ?_
      refine SimE.thenN ?_
      refine Sim.seq ?_
      refine Sim.block ?_
      refine Sim.seq ?_
      refine Sim.region0 ?_
      refine SimI.run 1 [(14, .one (li .i64 i6))] [] (by kernel_rfl) ?_
      refine SimI.bind (og := ix (bytesL a0) i6) { dst := some 15, op := POp.iaddrS 1 (Operand.tmp 10) (Operand.tmp 12), guard := none, hints := [] } (fun x8 => [(15, .one (.eptr ((codI .u8).enc x8) 0))]) (fun x8 => []) (by kernel_rfl) (fun x8 hr => pOp_eff (by kernel_rfl) (by kernel_rfl) (eff_idx (c := (codI .u8)) (l := bytesL a0) (k := .i64) (n := i6) (by kernel_rfl) (by kernel_rfl) (by kernel_rfl) hr)) (fun x8 => ?_)
      refine SimI.run 3 [(8, .one (li .u8 x8)), (7, .one (li .i64 i6)), (16, .one (li .u8 x8))] [] (by kernel_rfl) ?_
      refine SimI.done (by kernel_rfl) ?_
      refine SimE.thenN ?_
      refine Sim.seq ?_
      refine Sim.block ?_
      refine Sim.seq ?_
      refine Sim.seq ?_
      refine Sim.region0 ?_
      refine SimI.run 3 [(20, .one (lb (i6 == 9))), (19, .one (lb (i6 == 9))), (18, .one (li .i64 i6))] [] (by kernel_rfl) ?_
      refine SimI.split 20 (i6 == 9) (by kernel_rfl) ?_ ?_
      · refine SimI.run 4 [(17, .one (lb (decide ((1 : Int) < x8)))), (23, .one (lb (decide ((1 : Int) < x8)))), (22, .one (lb (decide ((1 : Int) < x8)))), (21, .one (li .u8 x8))] [] (by kernel_rfl) ?_
        refine SimI.done (by kernel_rfl) ?_
        refine SimE.thenN ?_
        refine Sim.cond (decide ((1 : Int) < x8)) (by kernel_rfl) ?_ ?_
        · refine Sim.skip ?_
          refine SimE.thenN ?_
          refine Sim.cond (decide ((1 : Int) < x8)) (by kernel_rfl) ?_ ?_
          · refine Sim.seq ?_
            refine Sim.region0 ?_
            refine SimI.run 3 [(4, .one (li .i64 11)), (3, .one (li .i64 0)), (2, .one (li .u64 0))] [] (by kernel_rfl) ?_
            refine SimI.done (by kernel_rfl) ?_
            refine SimE.thenN ?_
            refine Sim.ret ?_
            refine SimE.blockR ?_
            refine SimE.thenR ?_
            refine SimE.blockR ?_
            refine SimE.thenR ?_
            refine SimE.loopR ?_
            refine SimE.blockR ?_
            refine SimE.thenR ?_
            exact SimE.fin (by kernel_rfl)
          · refine Sim.pre (ts := [5, 6, 7, 8, 10, 11, 12]) (os := []) (ow := []) [(5, .one (li .u64 i5)), (6, .one (li .i64 0)), (7, .one (li .i64 i6)), (8, .one (li .u8 x8)), (10, .one (vw (codI .u8) (bytesL a0))), (11, .one (li .i64 ((bytesL a0).length : Int))), (12, .one (li .i64 i6))] [] (by kernel_rfl) (by kernel_rfl) (by kernel_rfl) ?_
            exact F70_j10_ok n a0 i5 i6 x8 (F70_l7 n a0 m_l7) m_l7 ih_l7
        · refine Sim.pre (ts := [5, 6, 7, 8, 10, 11, 12]) (os := []) (ow := []) [(5, .one (li .u64 i5)), (6, .one (li .i64 0)), (7, .one (li .i64 i6)), (8, .one (li .u8 x8)), (10, .one (vw (codI .u8) (bytesL a0))), (11, .one (li .i64 ((bytesL a0).length : Int))), (12, .one (li .i64 i6))] [] (by kernel_rfl) (by kernel_rfl) (by kernel_rfl) ?_
          exact F70_j9_ok n a0 i5 i6 x8 (F70_l7 n a0 m_l7) m_l7 ih_l7
      · refine SimI.run 4 [(17, .one (lb false)), (23, .one (lb false)), (22, .tup []), (21, .tup [])] [] (by kernel_rfl) ?_
        refine SimI.done (by kernel_rfl) ?_
        refine SimE.thenN ?_
        refine Sim.condF (by kernel_rfl) ?_
        refine Sim.pre (ts := [5, 6, 7, 8, 10, 11, 12]) (os := []) (ow := []) [(5, .one (li .u64 i5)), (6, .one (li .i64 0)), (7, .one (li .i64 i6)), (8, .one (li .u8 x8)), (10, .one (vw (codI .u8) (bytesL a0))), (11, .one (li .i64 ((bytesL a0).length : Int))), (12, .one (li .i64 i6))] [] (by kernel_rfl) (by kernel_rfl) (by kernel_rfl) ?_
        exact F70_j9_ok n a0 i5 i6 x8 (F70_l7 n a0 m_l7) m_l7 ih_l7
    · refine Sim.exit ?_
      refine SimE.thenX ?_
      refine SimE.loopX ?_
      refine SimE.blockX ?_
      refine SimE.thenN ?_
      refine Sim.pre (ts := [5, 6]) (os := []) (ow := []) [(5, .one (li .u64 i5)), (6, .one (li .i64 0))] [] (by kernel_rfl) (by kernel_rfl) (by kernel_rfl) ?_
      exact F70_j13_ok n i5 0

def F70 (n : Nat) (a0 : ByteArray) : Option (Int × Int × Int) :=
  F70_l7 n a0 (n + 8) 0 0
theorem F70_ok (n : Nat) (a0 : ByteArray) : ∀ r, F70 n a0 = some r → D 70 [.one (ls a0)] [] = some (F70_e r) := by
  refine fn_to (D := D) (n := n + 8) (nt := 55) (rs := pc70_r) (c := pc70_c56) (L := [(0, .one (ls a0))]) (M := []) (k := 0) rfl rfl rfl rfl rfl rfl rfl ?_
  unfold F70
  refine Sim.seq ?_
  refine Sim.region0 ?_
  refine SimI.run 3 [(4, .one (li .i64 0)), (3, .one (li .i64 0)), (2, .one (li .u64 0))] [] (by kernel_rfl) ?_
  refine SimI.done (by kernel_rfl) ?_
  refine SimE.thenN ?_
  refine Sim.scope ?_
  refine Sim.seq ?_
  refine Sim.region0 ?_
  refine SimI.run 2 [(6, .one (li .i64 0)), (5, .one (li .u64 0))] [] (by kernel_rfl) ?_
  refine SimI.done (by kernel_rfl) ?_
  refine SimE.thenN ?_
  refine Sim.seq ?_
  refine Sim.label ?_
  refine SimE.thenN ?_
  refine Sim.seq ?_
  refine Sim.seq ?_
  refine Sim.region0 ?_
  refine SimI.run 1 [(9, .one (ls a0))] [] (by kernel_rfl) ?_
  refine SimI.step { dst := some 10, op := POp.s2b 5 (Operand.tmp 9), guard := none, hints := [] } [(10, .one (vw (codI .u8) (bytesL a0)))] [] (by kernel_rfl) (pOp_eff (by kernel_rfl) (by kernel_rfl) (eff_s2b (s := a0) (by kernel_rfl))) ?_
  refine SimI.run 2 [(12, .one (li .i64 0)), (11, .one (li .i64 ((bytesL a0).length : Int)))] [] (by kernel_rfl) ?_
  refine SimI.done (by kernel_rfl) ?_
  refine SimE.thenN ?_
  refine Sim.block ?_
  refine Sim.loop ?_
  refine SimL.pre (ts := [5, 6, 10, 11, 12]) (os := []) (ow := []) [(5, .one (li .u64 0)), (6, .one (li .i64 0)), (10, .one (vw (codI .u8) (bytesL a0))), (11, .one (li .i64 ((bytesL a0).length : Int))), (12, .one (li .i64 0))] [] (by kernel_rfl) (by kernel_rfl) (by kernel_rfl) ?_
  exact F70_l7_ok n a0 (n + 8) 0 0


-- 74: vedette/num.Zag
def F74_e : Int → PV × List Ob := fun r => (.one (li .i64 r), [])
def F74 (n : Nat) (a0 : Int) : Option Int :=
  some (bitsI .xor .i64 (IntKind.wrap .i64 (shrI .u64 a0 1)) (IntKind.wrap .i64 (0 - (IntKind.wrap .i64 (bitsI .and .u64 a0 1)))))
theorem F74_ok (n : Nat) (a0 : Int) : ∀ r, F74 n a0 = some r → D 74 [.one (li .u64 a0)] [] = some (F74_e r) := by
  refine fn_to (D := D) (n := n + 8) (nt := 11) (rs := pc74_r) (c := pc74_c5) (L := [(0, .one (li .u64 a0))]) (M := []) (k := 0) rfl rfl rfl rfl rfl rfl rfl ?_
  unfold F74
  refine Sim.seq ?_
  refine Sim.region0 ?_
  refine SimI.run 1 [(2, .one (li .i64 0))] [] (by kernel_rfl) ?_
  refine SimI.done (by kernel_rfl) ?_
  refine SimE.thenN ?_
  refine Sim.seq ?_
  refine Sim.region0 ?_
  refine SimI.run 9 [(2, .one (li .i64 (bitsI .xor .i64 (IntKind.wrap .i64 (shrI .u64 a0 1)) (IntKind.wrap .i64 (0 - (IntKind.wrap .i64 (bitsI .and .u64 a0 1))))))), (10, .one (li .i64 (bitsI .xor .i64 (IntKind.wrap .i64 (shrI .u64 a0 1)) (IntKind.wrap .i64 (0 - (IntKind.wrap .i64 (bitsI .and .u64 a0 1))))))), (9, .one (li .i64 (IntKind.wrap .i64 (0 - (IntKind.wrap .i64 (bitsI .and .u64 a0 1)))))), (8, .one (li .i64 (IntKind.wrap .i64 (bitsI .and .u64 a0 1)))), (7, .one (li .u64 (bitsI .and .u64 a0 1))), (6, .one (li .u64 a0)), (5, .one (li .i64 (IntKind.wrap .i64 (shrI .u64 a0 1)))), (4, .one (li .u64 (shrI .u64 a0 1))), (3, .one (li .u64 a0))] [] (by kernel_rfl) ?_
  refine SimI.done (by kernel_rfl) ?_
  refine SimE.thenN ?_
  refine Sim.ret ?_
  exact SimE.fin (by kernel_rfl)


-- 65: vedette/num.Ints
def F65_e : (Int × Int × Int) → PV × List Ob := fun r => (.tup [.one (li .i64 r.1), .one (li .i64 r.2.1), .one (li .i64 r.2.2)], [])
def F65 (n : Nat) (a0 : ByteArray) : Option (Int × Int × Int) :=
  (F70 n a0).bind fun (r1 : (Int × Int × Int)) =>
  (F74 n r1.1).bind fun (r2 : Int) =>
  some (r2, r1.2.1, r1.2.2)
theorem F65_ok (n : Nat) (a0 : ByteArray) : ∀ r, F65 n a0 = some r → D 65 [.one (ls a0)] [] = some (F65_e r) := by
  refine fn_to (D := D) (n := n + 8) (nt := 18) (rs := pc65_r) (c := pc65_c7) (L := [(0, .one (ls a0))]) (M := []) (k := 0) rfl rfl rfl rfl rfl rfl rfl ?_
  unfold F65
  refine Sim.seq ?_
  refine Sim.region0 ?_
  refine SimI.run 3 [(4, .one (li .i64 0)), (3, .one (li .i64 0)), (2, .one (li .i64 0))] [] (by kernel_rfl) ?_
  refine SimI.done (by kernel_rfl) ?_
  refine SimE.thenN ?_
  refine Sim.seq ?_
  refine Sim.region0 ?_
  refine SimI.run 1 [(9, .one (ls a0))] [] (by kernel_rfl) ?_
  refine SimI.bind (og := F70 n a0) { dst := some 10, op := POp.call true [[]] 70 [Operand.tmp 9], guard := none, hints := [] } (fun r1 => [(10, .tup [.one (li .u64 r1.1), .one (li .i64 r1.2.1), .one (li .i64 r1.2.2)])]) (fun r1 => []) (by kernel_rfl) (fun r1 hr => pOp_eff (by kernel_rfl) (by kernel_rfl) (eff_call (ARGS := [.one (ls a0)]) (by kernel_rfl) (args_clean (by kernel_rfl) args_nil) (F70_ok n a0 r1 hr) (by kernel_rfl))) (fun r1 => ?_)
  refine SimI.run 7 [(7, .one (li .i64 r1.2.2)), (6, .one (li .i64 r1.2.1)), (5, .one (li .u64 r1.1)), (13, .one (li .i64 r1.2.2)), (12, .one (li .i64 r1.2.1)), (11, .one (li .u64 r1.1)), (8, .tup [.one (li .u64 r1.1), .one (li .i64 r1.2.1), .one (li .i64 r1.2.2)])] [] (by kernel_rfl) ?_
  refine SimI.done (by kernel_rfl) ?_
  refine SimE.thenN ?_
  refine Sim.seq ?_
  refine Sim.region0 ?_
  refine SimI.run 1 [(14, .one (li .u64 r1.1))] [] (by kernel_rfl) ?_
  refine SimI.bind (og := F74 n r1.1) { dst := some 15, op := POp.call true [[]] 74 [Operand.tmp 14], guard := none, hints := [] } (fun r2 => [(15, .one (li .i64 r2))]) (fun r2 => []) (by kernel_rfl) (fun r2 hr => pOp_eff (by kernel_rfl) (by kernel_rfl) (eff_call (ARGS := [.one (li .u64 r1.1)]) (by kernel_rfl) (args_clean (by kernel_rfl) args_nil) (F74_ok n r1.1 r2 hr) (by kernel_rfl))) (fun r2 => ?_)
  refine SimI.run 5 [(4, .one (li .i64 r1.2.2)), (3, .one (li .i64 r1.2.1)), (2, .one (li .i64 r2)), (17, .one (li .i64 r1.2.2)), (16, .one (li .i64 r1.2.1))] [] (by kernel_rfl) ?_
  refine SimI.done (by kernel_rfl) ?_
  refine SimE.thenN ?_
  refine Sim.ret ?_
  exact SimE.fin (by kernel_rfl)


-- 64: vedette/cmd.Read$1
def F64s0_e (a0 : ByteArray) (a1 : Int) : (Int × Int × Int) → PV × List Ob := fun r => (.tup [.one (li .i64 r.1), .one (li .i64 r.2.1)], [.cells [ls a0], .cells [li .i64 r.2.2]])
def F64s0 (n : Nat) (a0 : ByteArray) (a1 : Int) : Option (Int × Int × Int) :=
  if 0 ≤ (a1 : Int) ∧ (a1 : Int) ≤ (a0.size : Int) then
    (F65 n (a0.extract a1.toNat a0.size)).bind fun (r1 : (Int × Int × Int)) =>
    some (r1.1, r1.2.2, (IntKind.wrap .i64 (a1 + r1.2.1)))
  else none
theorem F64s0_ok (n : Nat) (a0 : ByteArray) (a1 : Int) : ∀ r, F64s0 n a0 a1 = some r → D 64 [.one (.ptr 1000000 0), .one (.ptr 1000001 0)] [.cells [ls a0], .cells [li .i64 a1]] = some ((F64s0_e a0 a1) r) := by
  refine fn_to (D := D) (n := n + 8) (nt := 20) (rs := pc64_r) (c := pc64_c9) (L := [(0, .one (.ptr 1000000 0)), (1, .one (.ptr 1000001 0))]) (M := [(1000000, some (.cells [ls a0])), (1000001, some (.cells [li .i64 a1]))]) (k := 2) rfl rfl rfl rfl rfl rfl rfl ?_
  unfold F64s0
  refine Sim.seq ?_
  refine Sim.region0 ?_
  refine SimI.run 2 [(3, .one (li .i64 0)), (2, .one (li .i64 0))] [] (by kernel_rfl) ?_
  refine SimI.done (by kernel_rfl) ?_
  refine SimE.thenN ?_
  refine Sim.seq ?_
  refine Sim.region0 ?_
  refine SimI.run 2 [(9, .one (li .i64 a1)), (8, .one (ls a0))] [] (by kernel_rfl) ?_
  refine SimI.guard (c := 0 ≤ (a1 : Int) ∧ (a1 : Int) ≤ (a0.size : Int)) { dst := some 10, op := POp.prim (Prim.slice 9 true false) [Operand.tmp 8, Operand.tmp 9], guard := none, hints := [] } [(10, .one (ls (a0.extract a1.toNat a0.size)))] [] (by kernel_rfl) (fun hc => pOp_eff (by kernel_rfl) (by kernel_rfl) (eff_prim (by kernel_rfl) (pr_cutL (s := a0) (k := .i64) (a := a1) Try.underlying9 hc))) ?_
  refine SimI.bind (og := F65 n (a0.extract a1.toNat a0.size)) { dst := some 11, op := POp.call true [[]] 65 [Operand.tmp 10], guard := none, hints := [] } (fun r1 => [(11, .tup [.one (li .i64 r1.1), .one (li .i64 r1.2.1), .one (li .i64 r1.2.2)])]) (fun r1 => []) (by kernel_rfl) (fun r1 hr => pOp_eff (by kernel_rfl) (by kernel_rfl) (eff_call (ARGS := [.one (ls (a0.extract a1.toNat a0.size))]) (by kernel_rfl) (args_clean (by kernel_rfl) args_nil) (F65_ok n (a0.extract a1.toNat a0.size) r1 hr) (by kernel_rfl))) (fun r1 => ?_)
  refine SimI.run 7 [(6, .one (li .i64 r1.2.2)), (5, .one (li .i64 r1.2.1)), (4, .one (li .i64 r1.1)), (14, .one (li .i64 r1.2.2)), (13, .one (li .i64 r1.2.1)), (12, .one (li .i64 r1.1)), (7, .tup [.one (li .i64 r1.1), .one (li .i64 r1.2.1), .one (li .i64 r1.2.2)])] [] (by kernel_rfl) ?_
  refine SimI.done (by kernel_rfl) ?_
  refine SimE.thenN ?_
  refine Sim.seq ?_
  refine Sim.region0 ?_
  refine SimI.run 4 [(17, .one (li .i64 (IntKind.wrap .i64 (a1 + r1.2.1)))), (16, .one (li .i64 r1.2.1)), (15, .one (li .i64 a1))] [(1000001, some (.cells [li .i64 (IntKind.wrap .i64 (a1 + r1.2.1))]))] (by kernel_rfl) ?_
  refine SimI.done (by kernel_rfl) ?_
  refine SimE.thenN ?_
  refine Sim.seq ?_
  refine Sim.region0 ?_
  refine SimI.run 4 [(3, .one (li .i64 r1.2.2)), (2, .one (li .i64 r1.1)), (19, .one (li .i64 r1.2.2)), (18, .one (li .i64 r1.1))] [] (by kernel_rfl) ?_
  refine SimI.done (by kernel_rfl) ?_
  refine SimE.thenN ?_
  refine Sim.ret ?_
  exact SimE.fin (by kernel_rfl)


end Go.Proofs.Ythmbegagkgdopaa
