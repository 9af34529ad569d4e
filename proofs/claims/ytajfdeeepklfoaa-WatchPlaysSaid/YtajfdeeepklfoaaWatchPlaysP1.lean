/-
  Functions of the program as functions of Lean. No condition.
-/
import Derived.Test.YtajfdeeepklfoaaWatchPlaysP0
namespace Go.Proofs.Ytajfdeeepklfoaa
open Go Go.Rx
set_option maxRecDepth 100000
set_option linter.unusedVariables false
set_option linter.unusedSimpArgs false
set_option linter.unnecessarySimpa false
-- 65: vedette/vedetteref10.Is
def F65_e : Bool → PV × List Ob := fun r => (.one (lb r), [])
def F65_u24 (n : Nat) (b23 : Bool) : Option Bool :=
    some b23
theorem F65_u24_ok (n : Nat) (a0 : Command) (b23 : Bool) : SimL Try.prog D (n + 8) (n + 4) pc65_c13 [(1, .one (.ptr 1 0)), (3, .one (lb b23)), (4, .one (li .i64 4))] [(1, some (.cells [li .i64 a0.Kind, li .i64 a0.ID, li .i64 a0.Which, li .i64 a0.To, li .i64 a0.At.X, li .i64 a0.At.Y, li .i64 a0.F.a0.N, ls a0.F.a0.Text, li .i64 a0.F.a1.N, ls a0.F.a1.Text, li .i64 a0.F.a2.N, ls a0.F.a2.Text, li .i64 a0.F.a3.N, ls a0.F.a3.Text, li .i64 a0.Value.N, ls a0.Value.Text, li .i64 a0.Client, li .i64 a0.Session, li .i64 a0.Rect.X0, li .i64 a0.Rect.Y0, li .i64 a0.Rect.X1, li .i64 a0.Rect.Y1]))] (F65_u24 n b23) (QB 0 (QT Try.prog D (n + 8) pc65_c19 (QF false pc65_r 0 F65_e))) := by
    unfold F65_u24
    refine SimL.succ ?_
    refine Sim.seq ?_
    refine Sim.seq ?_
    refine Sim.region [(1, .one (.ptr 1 0)), (3, .one (lb b23)), (4, .one (li .i64 4))] [(1, some (.cells [li .i64 a0.Kind, li .i64 a0.ID, li .i64 a0.Which, li .i64 a0.To, li .i64 a0.At.X, li .i64 a0.At.Y, li .i64 a0.F.a0.N, ls a0.F.a0.Text, li .i64 a0.F.a1.N, ls a0.F.a1.Text, li .i64 a0.F.a2.N, ls a0.F.a2.Text, li .i64 a0.F.a3.N, ls a0.F.a3.Text, li .i64 a0.Value.N, ls a0.Value.Text, li .i64 a0.Client, li .i64 a0.Session, li .i64 a0.Rect.X0, li .i64 a0.Rect.Y0, li .i64 a0.Rect.X1, li .i64 a0.Rect.Y1]))] (by kernel_rfl) ?_
    refine SimI.run 2 [(55, .one (lb false)), (54, .one (li .i64 4))] [] (by kernel_rfl) ?_
    refine SimI.done (by kernel_rfl) ?_
    refine SimE.thenN ?_
    refine Sim.condF (by kernel_rfl) ?_
    refine Sim.exit ?_
    refine SimE.thenX ?_
    refine SimE.loopX ?_
    refine SimE.blockX ?_
    refine SimE.thenN ?_
    refine Sim.seq ?_
    refine Sim.region0 ?_
    refine SimI.run 2 [(2, .one (lb b23)), (66, .one (lb b23))] [] (by kernel_rfl) ?_
    refine SimI.done (by kernel_rfl) ?_
    refine SimE.thenN ?_
    refine Sim.ret ?_
    exact SimE.fin (by kernel_rfl)

def F65_u21 (n : Nat) (a0 : Command) (b20 : Bool) : Option Bool :=
    if b20 then
      (F70 n a0.F.a3).bind fun (r22 : Bool) =>
      F65_u24 n r22
    else
      F65_u24 n false
theorem F65_u21_ok (n : Nat) (a0 : Command) (b20 : Bool) : SimL Try.prog D (n + 8) (n + 5) pc65_c13 [(1, .one (.ptr 1 0)), (3, .one (lb b20)), (4, .one (li .i64 3))] [(1, some (.cells [li .i64 a0.Kind, li .i64 a0.ID, li .i64 a0.Which, li .i64 a0.To, li .i64 a0.At.X, li .i64 a0.At.Y, li .i64 a0.F.a0.N, ls a0.F.a0.Text, li .i64 a0.F.a1.N, ls a0.F.a1.Text, li .i64 a0.F.a2.N, ls a0.F.a2.Text, li .i64 a0.F.a3.N, ls a0.F.a3.Text, li .i64 a0.Value.N, ls a0.Value.Text, li .i64 a0.Client, li .i64 a0.Session, li .i64 a0.Rect.X0, li .i64 a0.Rect.Y0, li .i64 a0.Rect.X1, li .i64 a0.Rect.Y1]))] (F65_u21 n a0 b20) (QB 0 (QT Try.prog D (n + 8) pc65_c19 (QF false pc65_r 0 F65_e))) := by
    unfold F65_u21
    refine SimL.succ ?_
    refine Sim.seq ?_
    refine Sim.seq ?_
    refine Sim.region [(1, .one (.ptr 1 0)), (3, .one (lb b20)), (4, .one (li .i64 3))] [(1, some (.cells [li .i64 a0.Kind, li .i64 a0.ID, li .i64 a0.Which, li .i64 a0.To, li .i64 a0.At.X, li .i64 a0.At.Y, li .i64 a0.F.a0.N, ls a0.F.a0.Text, li .i64 a0.F.a1.N, ls a0.F.a1.Text, li .i64 a0.F.a2.N, ls a0.F.a2.Text, li .i64 a0.F.a3.N, ls a0.F.a3.Text, li .i64 a0.Value.N, ls a0.Value.Text, li .i64 a0.Client, li .i64 a0.Session, li .i64 a0.Rect.X0, li .i64 a0.Rect.Y0, li .i64 a0.Rect.X1, li .i64 a0.Rect.Y1]))] (by kernel_rfl) ?_
    refine SimI.run 2 [(55, .one (lb true)), (54, .one (li .i64 3))] [] (by kernel_rfl) ?_
    refine SimI.done (by kernel_rfl) ?_
    refine SimE.thenN ?_
    refine Sim.condT (by kernel_rfl) ?_
    refine Sim.skip ?_
    refine SimE.thenN ?_
    refine Sim.seq ?_
    refine Sim.block ?_
    refine Sim.region0 ?_
    refine SimI.run 2 [(59, .one (lb b20)), (58, .one (lb b20))] [] (by kernel_rfl) ?_
    refine SimI.split 59 b20 (by kernel_rfl) ?_ ?_
    · refine SimI.run 4 [(63, .agg [li .i64 a0.F.a3.N, ls a0.F.a3.Text]), (62, .one (.ptr 1 12)), (61, .one (.ptr 1 6)), (60, .one (li .i64 3))] [] (by kernel_rfl) ?_
      refine SimI.bind (og := F70 n a0.F.a3) { dst := some 64, op := POp.call true [[]] 70 [Operand.tmp 63], guard := some (59, true), hints := [] } (fun r22 => [(64, .one (lb r22))]) (fun r22 => []) (by kernel_rfl) (fun r22 hr => pOp_eff (by kernel_rfl) (by kernel_rfl) (eff_call (ARGS := [.agg [li .i64 a0.F.a3.N, ls a0.F.a3.Text]]) (by kernel_rfl) (args_clean (by kernel_rfl) args_nil) (F70_ok n a0.F.a3 r22 hr) (by kernel_rfl))) (fun r22 => ?_)
      refine SimI.run 2 [(3, .one (lb r22)), (65, .one (lb r22))] [] (by kernel_rfl) ?_
      refine SimI.done (by kernel_rfl) ?_
      refine SimE.blockN ?_
      refine SimE.thenN ?_
      refine Sim.region0 ?_
      refine SimI.run 3 [(4, .one (li .i64 4)), (57, .one (li .i64 4)), (56, .one (li .i64 3))] [] (by kernel_rfl) ?_
      refine SimI.done (by kernel_rfl) ?_
      refine SimE.loopN ?_
      refine SimL.pre (ts := [1, 3, 4]) (os := [1]) (ow := []) [(1, .one (.ptr 1 0)), (3, .one (lb r22)), (4, .one (li .i64 4))] [(1, some (.cells [li .i64 a0.Kind, li .i64 a0.ID, li .i64 a0.Which, li .i64 a0.To, li .i64 a0.At.X, li .i64 a0.At.Y, li .i64 a0.F.a0.N, ls a0.F.a0.Text, li .i64 a0.F.a1.N, ls a0.F.a1.Text, li .i64 a0.F.a2.N, ls a0.F.a2.Text, li .i64 a0.F.a3.N, ls a0.F.a3.Text, li .i64 a0.Value.N, ls a0.Value.Text, li .i64 a0.Client, li .i64 a0.Session, li .i64 a0.Rect.X0, li .i64 a0.Rect.Y0, li .i64 a0.Rect.X1, li .i64 a0.Rect.Y1]))] (by kernel_rfl) (by kernel_rfl) (by kernel_rfl) ?_
      exact F65_u24_ok n a0 r22
    · refine SimI.run 7 [(3, .one (lb false)), (65, .one (lb false)), (64, .tup []), (63, .tup []), (62, .tup []), (61, .tup []), (60, .tup [])] [] (by kernel_rfl) ?_
      refine SimI.done (by kernel_rfl) ?_
      refine SimE.blockN ?_
      refine SimE.thenN ?_
      refine Sim.region0 ?_
      refine SimI.run 3 [(4, .one (li .i64 4)), (57, .one (li .i64 4)), (56, .one (li .i64 3))] [] (by kernel_rfl) ?_
      refine SimI.done (by kernel_rfl) ?_
      refine SimE.loopN ?_
      refine SimL.pre (ts := [1, 3, 4]) (os := [1]) (ow := []) [(1, .one (.ptr 1 0)), (3, .one (lb false)), (4, .one (li .i64 4))] [(1, some (.cells [li .i64 a0.Kind, li .i64 a0.ID, li .i64 a0.Which, li .i64 a0.To, li .i64 a0.At.X, li .i64 a0.At.Y, li .i64 a0.F.a0.N, ls a0.F.a0.Text, li .i64 a0.F.a1.N, ls a0.F.a1.Text, li .i64 a0.F.a2.N, ls a0.F.a2.Text, li .i64 a0.F.a3.N, ls a0.F.a3.Text, li .i64 a0.Value.N, ls a0.Value.Text, li .i64 a0.Client, li .i64 a0.Session, li .i64 a0.Rect.X0, li .i64 a0.Rect.Y0, li .i64 a0.Rect.X1, li .i64 a0.Rect.Y1]))] (by kernel_rfl) (by kernel_rfl) (by kernel_rfl) ?_
      exact F65_u24_ok n a0 false

def F65_u18 (n : Nat) (a0 : Command) (b17 : Bool) : Option Bool :=
    if b17 then
      (F70 n a0.F.a2).bind fun (r19 : Bool) =>
      F65_u21 n a0 r19
    else
      F65_u21 n a0 false
theorem F65_u18_ok (n : Nat) (a0 : Command) (b17 : Bool) : SimL Try.prog D (n + 8) (n + 6) pc65_c13 [(1, .one (.ptr 1 0)), (3, .one (lb b17)), (4, .one (li .i64 2))] [(1, some (.cells [li .i64 a0.Kind, li .i64 a0.ID, li .i64 a0.Which, li .i64 a0.To, li .i64 a0.At.X, li .i64 a0.At.Y, li .i64 a0.F.a0.N, ls a0.F.a0.Text, li .i64 a0.F.a1.N, ls a0.F.a1.Text, li .i64 a0.F.a2.N, ls a0.F.a2.Text, li .i64 a0.F.a3.N, ls a0.F.a3.Text, li .i64 a0.Value.N, ls a0.Value.Text, li .i64 a0.Client, li .i64 a0.Session, li .i64 a0.Rect.X0, li .i64 a0.Rect.Y0, li .i64 a0.Rect.X1, li .i64 a0.Rect.Y1]))] (F65_u18 n a0 b17) (QB 0 (QT Try.prog D (n + 8) pc65_c19 (QF false pc65_r 0 F65_e))) := by
    unfold F65_u18
    refine SimL.succ ?_
    refine Sim.seq ?_
    refine Sim.seq ?_
    refine Sim.region [(1, .one (.ptr 1 0)), (3, .one (lb b17)), (4, .one (li .i64 2))] [(1, some (.cells [li .i64 a0.Kind, li .i64 a0.ID, li .i64 a0.Which, li .i64 a0.To, li .i64 a0.At.X, li .i64 a0.At.Y, li .i64 a0.F.a0.N, ls a0.F.a0.Text, li .i64 a0.F.a1.N, ls a0.F.a1.Text, li .i64 a0.F.a2.N, ls a0.F.a2.Text, li .i64 a0.F.a3.N, ls a0.F.a3.Text, li .i64 a0.Value.N, ls a0.Value.Text, li .i64 a0.Client, li .i64 a0.Session, li .i64 a0.Rect.X0, li .i64 a0.Rect.Y0, li .i64 a0.Rect.X1, li .i64 a0.Rect.Y1]))] (by kernel_rfl) ?_
    refine SimI.run 2 [(55, .one (lb true)), (54, .one (li .i64 2))] [] (by kernel_rfl) ?_
    refine SimI.done (by kernel_rfl) ?_
    refine SimE.thenN ?_
    refine Sim.condT (by kernel_rfl) ?_
    refine Sim.skip ?_
    refine SimE.thenN ?_
    refine Sim.seq ?_
    refine Sim.block ?_
    refine Sim.region0 ?_
    refine SimI.run 2 [(59, .one (lb b17)), (58, .one (lb b17))] [] (by kernel_rfl) ?_
    refine SimI.split 59 b17 (by kernel_rfl) ?_ ?_
    · refine SimI.run 4 [(63, .agg [li .i64 a0.F.a2.N, ls a0.F.a2.Text]), (62, .one (.ptr 1 10)), (61, .one (.ptr 1 6)), (60, .one (li .i64 2))] [] (by kernel_rfl) ?_
      refine SimI.bind (og := F70 n a0.F.a2) { dst := some 64, op := POp.call true [[]] 70 [Operand.tmp 63], guard := some (59, true), hints := [] } (fun r19 => [(64, .one (lb r19))]) (fun r19 => []) (by kernel_rfl) (fun r19 hr => pOp_eff (by kernel_rfl) (by kernel_rfl) (eff_call (ARGS := [.agg [li .i64 a0.F.a2.N, ls a0.F.a2.Text]]) (by kernel_rfl) (args_clean (by kernel_rfl) args_nil) (F70_ok n a0.F.a2 r19 hr) (by kernel_rfl))) (fun r19 => ?_)
      refine SimI.run 2 [(3, .one (lb r19)), (65, .one (lb r19))] [] (by kernel_rfl) ?_
      refine SimI.done (by kernel_rfl) ?_
      refine SimE.blockN ?_
      refine SimE.thenN ?_
      refine Sim.region0 ?_
      refine SimI.run 3 [(4, .one (li .i64 3)), (57, .one (li .i64 3)), (56, .one (li .i64 2))] [] (by kernel_rfl) ?_
      refine SimI.done (by kernel_rfl) ?_
      refine SimE.loopN ?_
      refine SimL.pre (ts := [1, 3, 4]) (os := [1]) (ow := []) [(1, .one (.ptr 1 0)), (3, .one (lb r19)), (4, .one (li .i64 3))] [(1, some (.cells [li .i64 a0.Kind, li .i64 a0.ID, li .i64 a0.Which, li .i64 a0.To, li .i64 a0.At.X, li .i64 a0.At.Y, li .i64 a0.F.a0.N, ls a0.F.a0.Text, li .i64 a0.F.a1.N, ls a0.F.a1.Text, li .i64 a0.F.a2.N, ls a0.F.a2.Text, li .i64 a0.F.a3.N, ls a0.F.a3.Text, li .i64 a0.Value.N, ls a0.Value.Text, li .i64 a0.Client, li .i64 a0.Session, li .i64 a0.Rect.X0, li .i64 a0.Rect.Y0, li .i64 a0.Rect.X1, li .i64 a0.Rect.Y1]))] (by kernel_rfl) (by kernel_rfl) (by kernel_rfl) ?_
      exact F65_u21_ok n a0 r19
    · refine SimI.run 7 [(3, .one (lb false)), (65, .one (lb false)), (64, .tup []), (63, .tup []), (62, .tup []), (61, .tup []), (60, .tup [])] [] (by kernel_rfl) ?_
      refine SimI.done (by kernel_rfl) ?_
      refine SimE.blockN ?_
      refine SimE.thenN ?_
      refine Sim.region0 ?_
      refine SimI.run 3 [(4, .one (li .i64 3)), (57, .one (li .i64 3)), (56, .one (li .i64 2))] [] (by kernel_rfl) ?_
      refine SimI.done (by kernel_rfl) ?_
      refine SimE.loopN ?_
      refine SimL.pre (ts := [1, 3, 4]) (os := [1]) (ow := []) [(1, .one (.ptr 1 0)), (3, .one (lb false)), (4, .one (li .i64 3))] [(1, some (.cells [li .i64 a0.Kind, li .i64 a0.ID, li .i64 a0.Which, li .i64 a0.To, li .i64 a0.At.X, li .i64 a0.At.Y, li .i64 a0.F.a0.N, ls a0.F.a0.Text, li .i64 a0.F.a1.N, ls a0.F.a1.Text, li .i64 a0.F.a2.N, ls a0.F.a2.Text, li .i64 a0.F.a3.N, ls a0.F.a3.Text, li .i64 a0.Value.N, ls a0.Value.Text, li .i64 a0.Client, li .i64 a0.Session, li .i64 a0.Rect.X0, li .i64 a0.Rect.Y0, li .i64 a0.Rect.X1, li .i64 a0.Rect.Y1]))] (by kernel_rfl) (by kernel_rfl) (by kernel_rfl) ?_
      exact F65_u21_ok n a0 false

def F65_u15 (n : Nat) (a0 : Command) (b14 : Bool) : Option Bool :=
    if b14 then
      (F70 n a0.F.a1).bind fun (r16 : Bool) =>
      F65_u18 n a0 r16
    else
      F65_u18 n a0 false
theorem F65_u15_ok (n : Nat) (a0 : Command) (b14 : Bool) : SimL Try.prog D (n + 8) (n + 7) pc65_c13 [(1, .one (.ptr 1 0)), (3, .one (lb b14)), (4, .one (li .i64 1))] [(1, some (.cells [li .i64 a0.Kind, li .i64 a0.ID, li .i64 a0.Which, li .i64 a0.To, li .i64 a0.At.X, li .i64 a0.At.Y, li .i64 a0.F.a0.N, ls a0.F.a0.Text, li .i64 a0.F.a1.N, ls a0.F.a1.Text, li .i64 a0.F.a2.N, ls a0.F.a2.Text, li .i64 a0.F.a3.N, ls a0.F.a3.Text, li .i64 a0.Value.N, ls a0.Value.Text, li .i64 a0.Client, li .i64 a0.Session, li .i64 a0.Rect.X0, li .i64 a0.Rect.Y0, li .i64 a0.Rect.X1, li .i64 a0.Rect.Y1]))] (F65_u15 n a0 b14) (QB 0 (QT Try.prog D (n + 8) pc65_c19 (QF false pc65_r 0 F65_e))) := by
    unfold F65_u15
    refine SimL.succ ?_
    refine Sim.seq ?_
    refine Sim.seq ?_
    refine Sim.region [(1, .one (.ptr 1 0)), (3, .one (lb b14)), (4, .one (li .i64 1))] [(1, some (.cells [li .i64 a0.Kind, li .i64 a0.ID, li .i64 a0.Which, li .i64 a0.To, li .i64 a0.At.X, li .i64 a0.At.Y, li .i64 a0.F.a0.N, ls a0.F.a0.Text, li .i64 a0.F.a1.N, ls a0.F.a1.Text, li .i64 a0.F.a2.N, ls a0.F.a2.Text, li .i64 a0.F.a3.N, ls a0.F.a3.Text, li .i64 a0.Value.N, ls a0.Value.Text, li .i64 a0.Client, li .i64 a0.Session, li .i64 a0.Rect.X0, li .i64 a0.Rect.Y0, li .i64 a0.Rect.X1, li .i64 a0.Rect.Y1]))] (by kernel_rfl) ?_
    refine SimI.run 2 [(55, .one (lb true)), (54, .one (li .i64 1))] [] (by kernel_rfl) ?_
    refine SimI.done (by kernel_rfl) ?_
    refine SimE.thenN ?_
    refine Sim.condT (by kernel_rfl) ?_
    refine Sim.skip ?_
    refine SimE.thenN ?_
    refine Sim.seq ?_
    refine Sim.block ?_
    refine Sim.region0 ?_
    refine SimI.run 2 [(59, .one (lb b14)), (58, .one (lb b14))] [] (by kernel_rfl) ?_
    refine SimI.split 59 b14 (by kernel_rfl) ?_ ?_
    · refine SimI.run 4 [(63, .agg [li .i64 a0.F.a1.N, ls a0.F.a1.Text]), (62, .one (.ptr 1 8)), (61, .one (.ptr 1 6)), (60, .one (li .i64 1))] [] (by kernel_rfl) ?_
      refine SimI.bind (og := F70 n a0.F.a1) { dst := some 64, op := POp.call true [[]] 70 [Operand.tmp 63], guard := some (59, true), hints := [] } (fun r16 => [(64, .one (lb r16))]) (fun r16 => []) (by kernel_rfl) (fun r16 hr => pOp_eff (by kernel_rfl) (by kernel_rfl) (eff_call (ARGS := [.agg [li .i64 a0.F.a1.N, ls a0.F.a1.Text]]) (by kernel_rfl) (args_clean (by kernel_rfl) args_nil) (F70_ok n a0.F.a1 r16 hr) (by kernel_rfl))) (fun r16 => ?_)
      refine SimI.run 2 [(3, .one (lb r16)), (65, .one (lb r16))] [] (by kernel_rfl) ?_
      refine SimI.done (by kernel_rfl) ?_
      refine SimE.blockN ?_
      refine SimE.thenN ?_
      refine Sim.region0 ?_
      refine SimI.run 3 [(4, .one (li .i64 2)), (57, .one (li .i64 2)), (56, .one (li .i64 1))] [] (by kernel_rfl) ?_
      refine SimI.done (by kernel_rfl) ?_
      refine SimE.loopN ?_
      refine SimL.pre (ts := [1, 3, 4]) (os := [1]) (ow := []) [(1, .one (.ptr 1 0)), (3, .one (lb r16)), (4, .one (li .i64 2))] [(1, some (.cells [li .i64 a0.Kind, li .i64 a0.ID, li .i64 a0.Which, li .i64 a0.To, li .i64 a0.At.X, li .i64 a0.At.Y, li .i64 a0.F.a0.N, ls a0.F.a0.Text, li .i64 a0.F.a1.N, ls a0.F.a1.Text, li .i64 a0.F.a2.N, ls a0.F.a2.Text, li .i64 a0.F.a3.N, ls a0.F.a3.Text, li .i64 a0.Value.N, ls a0.Value.Text, li .i64 a0.Client, li .i64 a0.Session, li .i64 a0.Rect.X0, li .i64 a0.Rect.Y0, li .i64 a0.Rect.X1, li .i64 a0.Rect.Y1]))] (by kernel_rfl) (by kernel_rfl) (by kernel_rfl) ?_
      exact F65_u18_ok n a0 r16
    · refine SimI.run 7 [(3, .one (lb false)), (65, .one (lb false)), (64, .tup []), (63, .tup []), (62, .tup []), (61, .tup []), (60, .tup [])] [] (by kernel_rfl) ?_
      refine SimI.done (by kernel_rfl) ?_
      refine SimE.blockN ?_
      refine SimE.thenN ?_
      refine Sim.region0 ?_
      refine SimI.run 3 [(4, .one (li .i64 2)), (57, .one (li .i64 2)), (56, .one (li .i64 1))] [] (by kernel_rfl) ?_
      refine SimI.done (by kernel_rfl) ?_
      refine SimE.loopN ?_
      refine SimL.pre (ts := [1, 3, 4]) (os := [1]) (ow := []) [(1, .one (.ptr 1 0)), (3, .one (lb false)), (4, .one (li .i64 2))] [(1, some (.cells [li .i64 a0.Kind, li .i64 a0.ID, li .i64 a0.Which, li .i64 a0.To, li .i64 a0.At.X, li .i64 a0.At.Y, li .i64 a0.F.a0.N, ls a0.F.a0.Text, li .i64 a0.F.a1.N, ls a0.F.a1.Text, li .i64 a0.F.a2.N, ls a0.F.a2.Text, li .i64 a0.F.a3.N, ls a0.F.a3.Text, li .i64 a0.Value.N, ls a0.Value.Text, li .i64 a0.Client, li .i64 a0.Session, li .i64 a0.Rect.X0, li .i64 a0.Rect.Y0, li .i64 a0.Rect.X1, li .i64 a0.Rect.Y1]))] (by kernel_rfl) (by kernel_rfl) (by kernel_rfl) ?_
      exact F65_u18_ok n a0 false

def F65_j12 (n : Nat) (a0 : Command) (b11 : Bool) : Option Bool :=
    if b11 then
      (F70 n a0.F.a0).bind fun (r13 : Bool) =>
      F65_u15 n a0 r13
    else
      F65_u15 n a0 false
theorem F65_j12_ok (n : Nat) (a0 : Command) (b11 : Bool) : Sim Try.prog D (n + 8) pc65_c20 [(1, .one (.ptr 1 0)), (3, .one (lb b11))] [(1, some (.cells [li .i64 a0.Kind, li .i64 a0.ID, li .i64 a0.Which, li .i64 a0.To, li .i64 a0.At.X, li .i64 a0.At.Y, li .i64 a0.F.a0.N, ls a0.F.a0.Text, li .i64 a0.F.a1.N, ls a0.F.a1.Text, li .i64 a0.F.a2.N, ls a0.F.a2.Text, li .i64 a0.F.a3.N, ls a0.F.a3.Text, li .i64 a0.Value.N, ls a0.Value.Text, li .i64 a0.Client, li .i64 a0.Session, li .i64 a0.Rect.X0, li .i64 a0.Rect.Y0, li .i64 a0.Rect.X1, li .i64 a0.Rect.Y1]))] (F65_j12 n a0 b11) (QF false pc65_r 0 F65_e) := by
    unfold F65_j12
    refine Sim.seq ?_
    refine Sim.seq ?_
    refine Sim.region [(1, .one (.ptr 1 0)), (3, .one (lb b11))] [(1, some (.cells [li .i64 a0.Kind, li .i64 a0.ID, li .i64 a0.Which, li .i64 a0.To, li .i64 a0.At.X, li .i64 a0.At.Y, li .i64 a0.F.a0.N, ls a0.F.a0.Text, li .i64 a0.F.a1.N, ls a0.F.a1.Text, li .i64 a0.F.a2.N, ls a0.F.a2.Text, li .i64 a0.F.a3.N, ls a0.F.a3.Text, li .i64 a0.Value.N, ls a0.Value.Text, li .i64 a0.Client, li .i64 a0.Session, li .i64 a0.Rect.X0, li .i64 a0.Rect.Y0, li .i64 a0.Rect.X1, li .i64 a0.Rect.Y1]))] (by kernel_rfl) ?_
    refine SimI.run 1 [(4, .one (li .i64 0))] [] (by kernel_rfl) ?_
    refine SimI.done (by kernel_rfl) ?_
    refine SimE.thenN ?_
    refine Sim.block ?_
    refine Sim.loop ?_
    refine SimL.succ ?_
    refine Sim.seq ?_
    refine Sim.seq ?_
    refine Sim.region [(1, .one (.ptr 1 0)), (3, .one (lb b11)), (4, .one (li .i64 0))] [(1, some (.cells [li .i64 a0.Kind, li .i64 a0.ID, li .i64 a0.Which, li .i64 a0.To, li .i64 a0.At.X, li .i64 a0.At.Y, li .i64 a0.F.a0.N, ls a0.F.a0.Text, li .i64 a0.F.a1.N, ls a0.F.a1.Text, li .i64 a0.F.a2.N, ls a0.F.a2.Text, li .i64 a0.F.a3.N, ls a0.F.a3.Text, li .i64 a0.Value.N, ls a0.Value.Text, li .i64 a0.Client, li .i64 a0.Session, li .i64 a0.Rect.X0, li .i64 a0.Rect.Y0, li .i64 a0.Rect.X1, li .i64 a0.Rect.Y1]))] (by kernel_rfl) ?_
    refine SimI.run 2 [(55, .one (lb true)), (54, .one (li .i64 0))] [] (by kernel_rfl) ?_
    refine SimI.done (by kernel_rfl) ?_
    refine SimE.thenN ?_
    refine Sim.condT (by kernel_rfl) ?_
    refine Sim.skip ?_
    refine SimE.thenN ?_
    refine Sim.seq ?_
    refine Sim.block ?_
    refine Sim.region0 ?_
    refine SimI.run 2 [(59, .one (lb b11)), (58, .one (lb b11))] [] (by kernel_rfl) ?_
    refine SimI.split 59 b11 (by kernel_rfl) ?_ ?_
    · refine SimI.run 4 [(63, .agg [li .i64 a0.F.a0.N, ls a0.F.a0.Text]), (62, .one (.ptr 1 6)), (61, .one (.ptr 1 6)), (60, .one (li .i64 0))] [] (by kernel_rfl) ?_
      refine SimI.bind (og := F70 n a0.F.a0) { dst := some 64, op := POp.call true [[]] 70 [Operand.tmp 63], guard := some (59, true), hints := [] } (fun r13 => [(64, .one (lb r13))]) (fun r13 => []) (by kernel_rfl) (fun r13 hr => pOp_eff (by kernel_rfl) (by kernel_rfl) (eff_call (ARGS := [.agg [li .i64 a0.F.a0.N, ls a0.F.a0.Text]]) (by kernel_rfl) (args_clean (by kernel_rfl) args_nil) (F70_ok n a0.F.a0 r13 hr) (by kernel_rfl))) (fun r13 => ?_)
      refine SimI.run 2 [(3, .one (lb r13)), (65, .one (lb r13))] [] (by kernel_rfl) ?_
      refine SimI.done (by kernel_rfl) ?_
      refine SimE.blockN ?_
      refine SimE.thenN ?_
      refine Sim.region0 ?_
      refine SimI.run 3 [(4, .one (li .i64 1)), (57, .one (li .i64 1)), (56, .one (li .i64 0))] [] (by kernel_rfl) ?_
      refine SimI.done (by kernel_rfl) ?_
      refine SimE.loopN ?_
      refine SimL.pre (ts := [1, 3, 4]) (os := [1]) (ow := []) [(1, .one (.ptr 1 0)), (3, .one (lb r13)), (4, .one (li .i64 1))] [(1, some (.cells [li .i64 a0.Kind, li .i64 a0.ID, li .i64 a0.Which, li .i64 a0.To, li .i64 a0.At.X, li .i64 a0.At.Y, li .i64 a0.F.a0.N, ls a0.F.a0.Text, li .i64 a0.F.a1.N, ls a0.F.a1.Text, li .i64 a0.F.a2.N, ls a0.F.a2.Text, li .i64 a0.F.a3.N, ls a0.F.a3.Text, li .i64 a0.Value.N, ls a0.Value.Text, li .i64 a0.Client, li .i64 a0.Session, li .i64 a0.Rect.X0, li .i64 a0.Rect.Y0, li .i64 a0.Rect.X1, li .i64 a0.Rect.Y1]))] (by kernel_rfl) (by kernel_rfl) (by kernel_rfl) ?_
      exact F65_u15_ok n a0 r13
    · refine SimI.run 7 [(3, .one (lb false)), (65, .one (lb false)), (64, .tup []), (63, .tup []), (62, .tup []), (61, .tup []), (60, .tup [])] [] (by kernel_rfl) ?_
      refine SimI.done (by kernel_rfl) ?_
      refine SimE.blockN ?_
      refine SimE.thenN ?_
      refine Sim.region0 ?_
      refine SimI.run 3 [(4, .one (li .i64 1)), (57, .one (li .i64 1)), (56, .one (li .i64 0))] [] (by kernel_rfl) ?_
      refine SimI.done (by kernel_rfl) ?_
      refine SimE.loopN ?_
      refine SimL.pre (ts := [1, 3, 4]) (os := [1]) (ow := []) [(1, .one (.ptr 1 0)), (3, .one (lb false)), (4, .one (li .i64 1))] [(1, some (.cells [li .i64 a0.Kind, li .i64 a0.ID, li .i64 a0.Which, li .i64 a0.To, li .i64 a0.At.X, li .i64 a0.At.Y, li .i64 a0.F.a0.N, ls a0.F.a0.Text, li .i64 a0.F.a1.N, ls a0.F.a1.Text, li .i64 a0.F.a2.N, ls a0.F.a2.Text, li .i64 a0.F.a3.N, ls a0.F.a3.Text, li .i64 a0.Value.N, ls a0.Value.Text, li .i64 a0.Client, li .i64 a0.Session, li .i64 a0.Rect.X0, li .i64 a0.Rect.Y0, li .i64 a0.Rect.X1, li .i64 a0.Rect.Y1]))] (by kernel_rfl) (by kernel_rfl) (by kernel_rfl) ?_
      exact F65_u15_ok n a0 false

def F65 (n : Nat) (a0 : Command) : Option Bool :=
  (F76 n a0.Kind 1 8).bind fun (r1 : Bool) =>
  if r1 then
    (F76 n a0.Client 0 3).bind fun (r2 : Bool) =>
    if r2 then
      (F76 n a0.Session 0 1000000).bind fun (r3 : Bool) =>
      if r3 then
        (F77 n a0).bind fun (r4 : Command) =>
        if Command.eqb a0 r4 then
          (F78 n a0.At).bind fun (r5 : Bool) =>
          if r5 then
            (F79 n a0.Rect).bind fun (r6 : Bool) =>
            if r6 then
              (F76 n a0.ID 0 1000000).bind fun (r7 : Bool) =>
              if r7 then
                (F76 n a0.Which (-1) 100).bind fun (r8 : Bool) =>
                if r8 then
                  (F76 n a0.To (-1) 100).bind fun (r9 : Bool) =>
                  if r9 then
                    (F70 n a0.Value).bind fun (r10 : Bool) =>
                    F65_j12 n a0 r10
                  else
                    F65_j12 n a0 false
                else
                  F65_j12 n a0 false
              else
                F65_j12 n a0 false
            else
              F65_j12 n a0 false
          else
            F65_j12 n a0 false
        else
          F65_j12 n a0 false
      else
        F65_j12 n a0 false
    else
      F65_j12 n a0 false
  else
    F65_j12 n a0 false
theorem F65_ok (n : Nat) (a0 : Command) : ∀ r, F65 n a0 = some r → D 65 [.agg [li .i64 a0.Kind, li .i64 a0.ID, li .i64 a0.Which, li .i64 a0.To, li .i64 a0.At.X, li .i64 a0.At.Y, li .i64 a0.F.a0.N, ls a0.F.a0.Text, li .i64 a0.F.a1.N, ls a0.F.a1.Text, li .i64 a0.F.a2.N, ls a0.F.a2.Text, li .i64 a0.F.a3.N, ls a0.F.a3.Text, li .i64 a0.Value.N, ls a0.Value.Text, li .i64 a0.Client, li .i64 a0.Session, li .i64 a0.Rect.X0, li .i64 a0.Rect.Y0, li .i64 a0.Rect.X1, li .i64 a0.Rect.Y1]] [] = some (F65_e r) := by
  refine fn_to (D := D) (n := n + 8) (nt := 67) (rs := pc65_r) (c := pc65_c22) (L := [(0, .agg [li .i64 a0.Kind, li .i64 a0.ID, li .i64 a0.Which, li .i64 a0.To, li .i64 a0.At.X, li .i64 a0.At.Y, li .i64 a0.F.a0.N, ls a0.F.a0.Text, li .i64 a0.F.a1.N, ls a0.F.a1.Text, li .i64 a0.F.a2.N, ls a0.F.a2.Text, li .i64 a0.F.a3.N, ls a0.F.a3.Text, li .i64 a0.Value.N, ls a0.Value.Text, li .i64 a0.Client, li .i64 a0.Session, li .i64 a0.Rect.X0, li .i64 a0.Rect.Y0, li .i64 a0.Rect.X1, li .i64 a0.Rect.Y1])]) (M := []) (k := 0) rfl rfl rfl rfl rfl rfl rfl ?_
  unfold F65
  refine Sim.seq ?_
  refine Sim.region0 ?_
  refine SimI.run 2 [(2, .one (lb false)), (1, .one (.ptr 1 0))] [(1, some (.cells [li .i64 a0.Kind, li .i64 a0.ID, li .i64 a0.Which, li .i64 a0.To, li .i64 a0.At.X, li .i64 a0.At.Y, li .i64 a0.F.a0.N, ls a0.F.a0.Text, li .i64 a0.F.a1.N, ls a0.F.a1.Text, li .i64 a0.F.a2.N, ls a0.F.a2.Text, li .i64 a0.F.a3.N, ls a0.F.a3.Text, li .i64 a0.Value.N, ls a0.Value.Text, li .i64 a0.Client, li .i64 a0.Session, li .i64 a0.Rect.X0, li .i64 a0.Rect.Y0, li .i64 a0.Rect.X1, li .i64 a0.Rect.Y1]))] (by kernel_rfl) ?_
  refine SimI.done (by kernel_rfl) ?_
  refine SimE.thenN ?_
  refine Sim.seq ?_
  refine Sim.region0 ?_
  refine SimI.run 2 [(6, .one (li .i64 a0.Kind)), (5, .one (.ptr 1 0))] [] (by kernel_rfl) ?_
  refine SimI.bind (og := F76 n a0.Kind 1 8) { dst := some 7, op := POp.call false [[], [], []] 76 [Operand.tmp 6, Operand.const (Value.int IntKind.i64 1), Operand.const (Value.int IntKind.i64 8)], guard := none, hints := [(6, Hint.imm)] } (fun r1 => [(7, .one (lb r1))]) (fun r1 => []) (by kernel_rfl) (fun r1 hr => pOp_eff (by kernel_rfl) (by kernel_rfl) (eff_call (ARGS := [.one (li .i64 a0.Kind), .one (li .i64 1), .one (li .i64 8)]) (by kernel_rfl) (args_clean (by kernel_rfl) (args_clean (by kernel_rfl) (args_clean (by kernel_rfl) args_nil))) (F76_ok n a0.Kind 1 8 r1 hr) (by kernel_rfl))) (fun r1 => ?_)
  refine SimI.run 1 [(8, .one (lb r1))] [] (by kernel_rfl) ?_
  refine SimI.split 8 r1 (by kernel_rfl) ?_ ?_
  · refine SimI.run 2 [(10, .one (li .i64 a0.Client)), (9, .one (.ptr 1 16))] [] (by kernel_rfl) ?_
    refine SimI.bind (og := F76 n a0.Client 0 3) { dst := some 11, op := POp.call false [[], [], []] 76 [Operand.tmp 10, Operand.const (Value.int IntKind.i64 0), Operand.const (Value.int IntKind.i64 3)], guard := some (8, true), hints := [(10, Hint.imm)] } (fun r2 => [(11, .one (lb r2))]) (fun r2 => []) (by kernel_rfl) (fun r2 hr => pOp_eff (by kernel_rfl) (by kernel_rfl) (eff_call (ARGS := [.one (li .i64 a0.Client), .one (li .i64 0), .one (li .i64 3)]) (by kernel_rfl) (args_clean (by kernel_rfl) (args_clean (by kernel_rfl) (args_clean (by kernel_rfl) args_nil))) (F76_ok n a0.Client 0 3 r2 hr) (by kernel_rfl))) (fun r2 => ?_)
    refine SimI.run 2 [(13, .one (lb r2)), (12, .one (lb r2))] [] (by kernel_rfl) ?_
    refine SimI.split 13 r2 (by kernel_rfl) ?_ ?_
    · refine SimI.run 2 [(15, .one (li .i64 a0.Session)), (14, .one (.ptr 1 17))] [] (by kernel_rfl) ?_
      refine SimI.bind (og := F76 n a0.Session 0 1000000) { dst := some 16, op := POp.call false [[], [], []] 76 [Operand.tmp 15, Operand.const (Value.int IntKind.i64 0), Operand.const (Value.int IntKind.i64 1000000)], guard := some (13, true), hints := [(15, Hint.imm)] } (fun r3 => [(16, .one (lb r3))]) (fun r3 => []) (by kernel_rfl) (fun r3 hr => pOp_eff (by kernel_rfl) (by kernel_rfl) (eff_call (ARGS := [.one (li .i64 a0.Session), .one (li .i64 0), .one (li .i64 1000000)]) (by kernel_rfl) (args_clean (by kernel_rfl) (args_clean (by kernel_rfl) (args_clean (by kernel_rfl) args_nil))) (F76_ok n a0.Session 0 1000000 r3 hr) (by kernel_rfl))) (fun r3 => ?_)
      refine SimI.run 2 [(18, .one (lb r3)), (17, .one (lb r3))] [] (by kernel_rfl) ?_
      refine SimI.split 18 r3 (by kernel_rfl) ?_ ?_
      · refine SimI.run 2 [(20, .agg [li .i64 a0.Kind, li .i64 a0.ID, li .i64 a0.Which, li .i64 a0.To, li .i64 a0.At.X, li .i64 a0.At.Y, li .i64 a0.F.a0.N, ls a0.F.a0.Text, li .i64 a0.F.a1.N, ls a0.F.a1.Text, li .i64 a0.F.a2.N, ls a0.F.a2.Text, li .i64 a0.F.a3.N, ls a0.F.a3.Text, li .i64 a0.Value.N, ls a0.Value.Text, li .i64 a0.Client, li .i64 a0.Session, li .i64 a0.Rect.X0, li .i64 a0.Rect.Y0, li .i64 a0.Rect.X1, li .i64 a0.Rect.Y1]), (19, .agg [li .i64 a0.Kind, li .i64 a0.ID, li .i64 a0.Which, li .i64 a0.To, li .i64 a0.At.X, li .i64 a0.At.Y, li .i64 a0.F.a0.N, ls a0.F.a0.Text, li .i64 a0.F.a1.N, ls a0.F.a1.Text, li .i64 a0.F.a2.N, ls a0.F.a2.Text, li .i64 a0.F.a3.N, ls a0.F.a3.Text, li .i64 a0.Value.N, ls a0.Value.Text, li .i64 a0.Client, li .i64 a0.Session, li .i64 a0.Rect.X0, li .i64 a0.Rect.Y0, li .i64 a0.Rect.X1, li .i64 a0.Rect.Y1])] [] (by kernel_rfl) ?_
        refine SimI.bind (og := F77 n a0) { dst := some 21, op := POp.call false [[]] 77 [Operand.tmp 20], guard := some (18, true), hints := [(20, Hint.imm)] } (fun r4 => [(21, .agg [li .i64 r4.Kind, li .i64 r4.ID, li .i64 r4.Which, li .i64 r4.To, li .i64 r4.At.X, li .i64 r4.At.Y, li .i64 r4.F.a0.N, ls r4.F.a0.Text, li .i64 r4.F.a1.N, ls r4.F.a1.Text, li .i64 r4.F.a2.N, ls r4.F.a2.Text, li .i64 r4.F.a3.N, ls r4.F.a3.Text, li .i64 r4.Value.N, ls r4.Value.Text, li .i64 r4.Client, li .i64 r4.Session, li .i64 r4.Rect.X0, li .i64 r4.Rect.Y0, li .i64 r4.Rect.X1, li .i64 r4.Rect.Y1])]) (fun r4 => []) (by kernel_rfl) (fun r4 hr => pOp_eff (by kernel_rfl) (by kernel_rfl) (eff_call (ARGS := [.agg [li .i64 a0.Kind, li .i64 a0.ID, li .i64 a0.Which, li .i64 a0.To, li .i64 a0.At.X, li .i64 a0.At.Y, li .i64 a0.F.a0.N, ls a0.F.a0.Text, li .i64 a0.F.a1.N, ls a0.F.a1.Text, li .i64 a0.F.a2.N, ls a0.F.a2.Text, li .i64 a0.F.a3.N, ls a0.F.a3.Text, li .i64 a0.Value.N, ls a0.Value.Text, li .i64 a0.Client, li .i64 a0.Session, li .i64 a0.Rect.X0, li .i64 a0.Rect.Y0, li .i64 a0.Rect.X1, li .i64 a0.Rect.Y1]]) (by kernel_rfl) (args_clean (by kernel_rfl) args_nil) (F77_ok n a0 r4 hr) (by kernel_rfl))) (fun r4 => ?_)
        refine SimI.step { dst := some 22, op := POp.prim (Prim.bin BinOp.eql 74 false false) [Operand.tmp 19, Operand.tmp 21], guard := some (18, true), hints := [(19, Hint.imm), (21, Hint.imm)] } [(22, .one (lb (Command.eqb a0 r4)))] [] (by kernel_rfl) (pOp_eff (by kernel_rfl) (by kernel_rfl) (eff_prim (by kernel_rfl) (Command_eql a0 r4 _ _))) ?_
        refine SimI.run 2 [(24, .one (lb (Command.eqb a0 r4))), (23, .one (lb (Command.eqb a0 r4)))] [] (by kernel_rfl) ?_
        refine SimI.split 24 (Command.eqb a0 r4) (by kernel_rfl) ?_ ?_
        · refine SimI.run 2 [(26, .agg [li .i64 a0.At.X, li .i64 a0.At.Y]), (25, .one (.ptr 1 4))] [] (by kernel_rfl) ?_
          refine SimI.bind (og := F78 n a0.At) { dst := some 27, op := POp.call false [[]] 78 [Operand.tmp 26], guard := some (24, true), hints := [(26, Hint.imm)] } (fun r5 => [(27, .one (lb r5))]) (fun r5 => []) (by kernel_rfl) (fun r5 hr => pOp_eff (by kernel_rfl) (by kernel_rfl) (eff_call (ARGS := [.agg [li .i64 a0.At.X, li .i64 a0.At.Y]]) (by kernel_rfl) (args_clean (by kernel_rfl) args_nil) (F78_ok n a0.At r5 hr) (by kernel_rfl))) (fun r5 => ?_)
          refine SimI.run 2 [(29, .one (lb r5)), (28, .one (lb r5))] [] (by kernel_rfl) ?_
          refine SimI.split 29 r5 (by kernel_rfl) ?_ ?_
          · refine SimI.run 2 [(31, .agg [li .i64 a0.Rect.X0, li .i64 a0.Rect.Y0, li .i64 a0.Rect.X1, li .i64 a0.Rect.Y1]), (30, .one (.ptr 1 18))] [] (by kernel_rfl) ?_
            refine SimI.bind (og := F79 n a0.Rect) { dst := some 32, op := POp.call false [[]] 79 [Operand.tmp 31], guard := some (29, true), hints := [(31, Hint.imm)] } (fun r6 => [(32, .one (lb r6))]) (fun r6 => []) (by kernel_rfl) (fun r6 hr => pOp_eff (by kernel_rfl) (by kernel_rfl) (eff_call (ARGS := [.agg [li .i64 a0.Rect.X0, li .i64 a0.Rect.Y0, li .i64 a0.Rect.X1, li .i64 a0.Rect.Y1]]) (by kernel_rfl) (args_clean (by kernel_rfl) args_nil) (F79_ok n a0.Rect r6 hr) (by kernel_rfl))) (fun r6 => ?_)
            refine SimI.run 2 [(34, .one (lb r6)), (33, .one (lb r6))] [] (by kernel_rfl) ?_
            refine SimI.split 34 r6 (by kernel_rfl) ?_ ?_
            · refine SimI.run 2 [(36, .one (li .i64 a0.ID)), (35, .one (.ptr 1 1))] [] (by kernel_rfl) ?_
              refine SimI.bind (og := F76 n a0.ID 0 1000000) { dst := some 37, op := POp.call false [[], [], []] 76 [Operand.tmp 36, Operand.const (Value.int IntKind.i64 0), Operand.const (Value.int IntKind.i64 1000000)], guard := some (34, true), hints := [(36, Hint.imm)] } (fun r7 => [(37, .one (lb r7))]) (fun r7 => []) (by kernel_rfl) (fun r7 hr => pOp_eff (by kernel_rfl) (by kernel_rfl) (eff_call (ARGS := [.one (li .i64 a0.ID), .one (li .i64 0), .one (li .i64 1000000)]) (by kernel_rfl) (args_clean (by kernel_rfl) (args_clean (by kernel_rfl) (args_clean (by kernel_rfl) args_nil))) (F76_ok n a0.ID 0 1000000 r7 hr) (by kernel_rfl))) (fun r7 => ?_)
              refine SimI.run 2 [(39, .one (lb r7)), (38, .one (lb r7))] [] (by kernel_rfl) ?_
              refine SimI.split 39 r7 (by kernel_rfl) ?_ ?_
              · refine SimI.run 2 [(41, .one (li .i64 a0.Which)), (40, .one (.ptr 1 2))] [] (by kernel_rfl) ?_
                refine SimI.bind (og := F76 n a0.Which (-1) 100) { dst := some 42, op := POp.call false [[], [], []] 76 [Operand.tmp 41, Operand.const (Value.int IntKind.i64 (-1)), Operand.const (Value.int IntKind.i64 100)], guard := some (39, true), hints := [(41, Hint.imm)] } (fun r8 => [(42, .one (lb r8))]) (fun r8 => []) (by kernel_rfl) (fun r8 hr => pOp_eff (by kernel_rfl) (by kernel_rfl) (eff_call (ARGS := [.one (li .i64 a0.Which), .one (li .i64 (-1)), .one (li .i64 100)]) (by kernel_rfl) (args_clean (by kernel_rfl) (args_clean (by kernel_rfl) (args_clean (by kernel_rfl) args_nil))) (F76_ok n a0.Which (-1) 100 r8 hr) (by kernel_rfl))) (fun r8 => ?_)
                refine SimI.run 2 [(44, .one (lb r8)), (43, .one (lb r8))] [] (by kernel_rfl) ?_
                refine SimI.split 44 r8 (by kernel_rfl) ?_ ?_
                · refine SimI.run 2 [(46, .one (li .i64 a0.To)), (45, .one (.ptr 1 3))] [] (by kernel_rfl) ?_
                  refine SimI.bind (og := F76 n a0.To (-1) 100) { dst := some 47, op := POp.call false [[], [], []] 76 [Operand.tmp 46, Operand.const (Value.int IntKind.i64 (-1)), Operand.const (Value.int IntKind.i64 100)], guard := some (44, true), hints := [(46, Hint.imm)] } (fun r9 => [(47, .one (lb r9))]) (fun r9 => []) (by kernel_rfl) (fun r9 hr => pOp_eff (by kernel_rfl) (by kernel_rfl) (eff_call (ARGS := [.one (li .i64 a0.To), .one (li .i64 (-1)), .one (li .i64 100)]) (by kernel_rfl) (args_clean (by kernel_rfl) (args_clean (by kernel_rfl) (args_clean (by kernel_rfl) args_nil))) (F76_ok n a0.To (-1) 100 r9 hr) (by kernel_rfl))) (fun r9 => ?_)
                  refine SimI.run 2 [(49, .one (lb r9)), (48, .one (lb r9))] [] (by kernel_rfl) ?_
                  refine SimI.split 49 r9 (by kernel_rfl) ?_ ?_
                  · refine SimI.run 2 [(51, .agg [li .i64 a0.Value.N, ls a0.Value.Text]), (50, .one (.ptr 1 14))] [] (by kernel_rfl) ?_
                    refine SimI.bind (og := F70 n a0.Value) { dst := some 52, op := POp.call false [[]] 70 [Operand.tmp 51], guard := some (49, true), hints := [(51, Hint.imm)] } (fun r10 => [(52, .one (lb r10))]) (fun r10 => []) (by kernel_rfl) (fun r10 hr => pOp_eff (by kernel_rfl) (by kernel_rfl) (eff_call (ARGS := [.agg [li .i64 a0.Value.N, ls a0.Value.Text]]) (by kernel_rfl) (args_clean (by kernel_rfl) args_nil) (F70_ok n a0.Value r10 hr) (by kernel_rfl))) (fun r10 => ?_)
                    refine SimI.run 2 [(3, .one (lb r10)), (53, .one (lb r10))] [] (by kernel_rfl) ?_
                    refine SimI.done (by kernel_rfl) ?_
                    refine SimE.thenN ?_
                    refine Sim.pre (ts := [1, 3]) (os := [1]) (ow := []) [(1, .one (.ptr 1 0)), (3, .one (lb r10))] [(1, some (.cells [li .i64 a0.Kind, li .i64 a0.ID, li .i64 a0.Which, li .i64 a0.To, li .i64 a0.At.X, li .i64 a0.At.Y, li .i64 a0.F.a0.N, ls a0.F.a0.Text, li .i64 a0.F.a1.N, ls a0.F.a1.Text, li .i64 a0.F.a2.N, ls a0.F.a2.Text, li .i64 a0.F.a3.N, ls a0.F.a3.Text, li .i64 a0.Value.N, ls a0.Value.Text, li .i64 a0.Client, li .i64 a0.Session, li .i64 a0.Rect.X0, li .i64 a0.Rect.Y0, li .i64 a0.Rect.X1, li .i64 a0.Rect.Y1]))] (by kernel_rfl) (by kernel_rfl) (by kernel_rfl) ?_
                    exact F65_j12_ok n a0 r10
                  · refine SimI.run 5 [(3, .one (lb false)), (53, .one (lb false)), (52, .tup []), (51, .tup []), (50, .tup [])] [] (by kernel_rfl) ?_
                    refine SimI.done (by kernel_rfl) ?_
                    refine SimE.thenN ?_
                    refine Sim.pre (ts := [1, 3]) (os := [1]) (ow := []) [(1, .one (.ptr 1 0)), (3, .one (lb false))] [(1, some (.cells [li .i64 a0.Kind, li .i64 a0.ID, li .i64 a0.Which, li .i64 a0.To, li .i64 a0.At.X, li .i64 a0.At.Y, li .i64 a0.F.a0.N, ls a0.F.a0.Text, li .i64 a0.F.a1.N, ls a0.F.a1.Text, li .i64 a0.F.a2.N, ls a0.F.a2.Text, li .i64 a0.F.a3.N, ls a0.F.a3.Text, li .i64 a0.Value.N, ls a0.Value.Text, li .i64 a0.Client, li .i64 a0.Session, li .i64 a0.Rect.X0, li .i64 a0.Rect.Y0, li .i64 a0.Rect.X1, li .i64 a0.Rect.Y1]))] (by kernel_rfl) (by kernel_rfl) (by kernel_rfl) ?_
                    exact F65_j12_ok n a0 false
                · refine SimI.run 10 [(3, .one (lb false)), (53, .one (lb false)), (52, .tup []), (51, .tup []), (50, .tup []), (49, .one (lb false)), (48, .one (lb false)), (47, .tup []), (46, .tup []), (45, .tup [])] [] (by kernel_rfl) ?_
                  refine SimI.done (by kernel_rfl) ?_
                  refine SimE.thenN ?_
                  refine Sim.pre (ts := [1, 3]) (os := [1]) (ow := []) [(1, .one (.ptr 1 0)), (3, .one (lb false))] [(1, some (.cells [li .i64 a0.Kind, li .i64 a0.ID, li .i64 a0.Which, li .i64 a0.To, li .i64 a0.At.X, li .i64 a0.At.Y, li .i64 a0.F.a0.N, ls a0.F.a0.Text, li .i64 a0.F.a1.N, ls a0.F.a1.Text, li .i64 a0.F.a2.N, ls a0.F.a2.Text, li .i64 a0.F.a3.N, ls a0.F.a3.Text, li .i64 a0.Value.N, ls a0.Value.Text, li .i64 a0.Client, li .i64 a0.Session, li .i64 a0.Rect.X0, li .i64 a0.Rect.Y0, li .i64 a0.Rect.X1, li .i64 a0.Rect.Y1]))] (by kernel_rfl) (by kernel_rfl) (by kernel_rfl) ?_
                  exact F65_j12_ok n a0 false
              · refine SimI.run 15 [(3, .one (lb false)), (53, .one (lb false)), (52, .tup []), (51, .tup []), (50, .tup []), (49, .one (lb false)), (48, .one (lb false)), (47, .tup []), (46, .tup []), (45, .tup []), (44, .one (lb false)), (43, .one (lb false)), (42, .tup []), (41, .tup []), (40, .tup [])] [] (by kernel_rfl) ?_
                refine SimI.done (by kernel_rfl) ?_
                refine SimE.thenN ?_
                refine Sim.pre (ts := [1, 3]) (os := [1]) (ow := []) [(1, .one (.ptr 1 0)), (3, .one (lb false))] [(1, some (.cells [li .i64 a0.Kind, li .i64 a0.ID, li .i64 a0.Which, li .i64 a0.To, li .i64 a0.At.X, li .i64 a0.At.Y, li .i64 a0.F.a0.N, ls a0.F.a0.Text, li .i64 a0.F.a1.N, ls a0.F.a1.Text, li .i64 a0.F.a2.N, ls a0.F.a2.Text, li .i64 a0.F.a3.N, ls a0.F.a3.Text, li .i64 a0.Value.N, ls a0.Value.Text, li .i64 a0.Client, li .i64 a0.Session, li .i64 a0.Rect.X0, li .i64 a0.Rect.Y0, li .i64 a0.Rect.X1, li .i64 a0.Rect.Y1]))] (by kernel_rfl) (by kernel_rfl) (by kernel_rfl) ?_
                exact F65_j12_ok n a0 false
            · refine SimI.run 20 [(3, .one (lb false)), (53, .one (lb false)), (52, .tup []), (51, .tup []), (50, .tup []), (49, .one (lb false)), (48, .one (lb false)), (47, .tup []), (46, .tup []), (45, .tup []), (44, .one (lb false)), (43, .one (lb false)), (42, .tup []), (41, .tup []), (40, .tup []), (39, .one (lb false)), (38, .one (lb false)), (37, .tup []), (36, .tup []), (35, .tup [])] [] (by kernel_rfl) ?_
              refine SimI.done (by kernel_rfl) ?_
              refine SimE.thenN ?_
              refine Sim.pre (ts := [1, 3]) (os := [1]) (ow := []) [(1, .one (.ptr 1 0)), (3, .one (lb false))] [(1, some (.cells [li .i64 a0.Kind, li .i64 a0.ID, li .i64 a0.Which, li .i64 a0.To, li .i64 a0.At.X, li .i64 a0.At.Y, li .i64 a0.F.a0.N, ls a0.F.a0.Text, li .i64 a0.F.a1.N, ls a0.F.a1.Text, li .i64 a0.F.a2.N, ls a0.F.a2.Text, li .i64 a0.F.a3.N, ls a0.F.a3.Text, li .i64 a0.Value.N, ls a0.Value.Text, li .i64 a0.Client, li .i64 a0.Session, li .i64 a0.Rect.X0, li .i64 a0.Rect.Y0, li .i64 a0.Rect.X1, li .i64 a0.Rect.Y1]))] (by kernel_rfl) (by kernel_rfl) (by kernel_rfl) ?_
              exact F65_j12_ok n a0 false
          · refine SimI.run 25 [(3, .one (lb false)), (53, .one (lb false)), (52, .tup []), (51, .tup []), (50, .tup []), (49, .one (lb false)), (48, .one (lb false)), (47, .tup []), (46, .tup []), (45, .tup []), (44, .one (lb false)), (43, .one (lb false)), (42, .tup []), (41, .tup []), (40, .tup []), (39, .one (lb false)), (38, .one (lb false)), (37, .tup []), (36, .tup []), (35, .tup []), (34, .one (lb false)), (33, .one (lb false)), (32, .tup []), (31, .tup []), (30, .tup [])] [] (by kernel_rfl) ?_
            refine SimI.done (by kernel_rfl) ?_
            refine SimE.thenN ?_
            refine Sim.pre (ts := [1, 3]) (os := [1]) (ow := []) [(1, .one (.ptr 1 0)), (3, .one (lb false))] [(1, some (.cells [li .i64 a0.Kind, li .i64 a0.ID, li .i64 a0.Which, li .i64 a0.To, li .i64 a0.At.X, li .i64 a0.At.Y, li .i64 a0.F.a0.N, ls a0.F.a0.Text, li .i64 a0.F.a1.N, ls a0.F.a1.Text, li .i64 a0.F.a2.N, ls a0.F.a2.Text, li .i64 a0.F.a3.N, ls a0.F.a3.Text, li .i64 a0.Value.N, ls a0.Value.Text, li .i64 a0.Client, li .i64 a0.Session, li .i64 a0.Rect.X0, li .i64 a0.Rect.Y0, li .i64 a0.Rect.X1, li .i64 a0.Rect.Y1]))] (by kernel_rfl) (by kernel_rfl) (by kernel_rfl) ?_
            exact F65_j12_ok n a0 false
        · refine SimI.run 30 [(3, .one (lb false)), (53, .one (lb false)), (52, .tup []), (51, .tup []), (50, .tup []), (49, .one (lb false)), (48, .one (lb false)), (47, .tup []), (46, .tup []), (45, .tup []), (44, .one (lb false)), (43, .one (lb false)), (42, .tup []), (41, .tup []), (40, .tup []), (39, .one (lb false)), (38, .one (lb false)), (37, .tup []), (36, .tup []), (35, .tup []), (34, .one (lb false)), (33, .one (lb false)), (32, .tup []), (31, .tup []), (30, .tup []), (29, .one (lb false)), (28, .one (lb false)), (27, .tup []), (26, .tup []), (25, .tup [])] [] (by kernel_rfl) ?_
          refine SimI.done (by kernel_rfl) ?_
          refine SimE.thenN ?_
          refine Sim.pre (ts := [1, 3]) (os := [1]) (ow := []) [(1, .one (.ptr 1 0)), (3, .one (lb false))] [(1, some (.cells [li .i64 a0.Kind, li .i64 a0.ID, li .i64 a0.Which, li .i64 a0.To, li .i64 a0.At.X, li .i64 a0.At.Y, li .i64 a0.F.a0.N, ls a0.F.a0.Text, li .i64 a0.F.a1.N, ls a0.F.a1.Text, li .i64 a0.F.a2.N, ls a0.F.a2.Text, li .i64 a0.F.a3.N, ls a0.F.a3.Text, li .i64 a0.Value.N, ls a0.Value.Text, li .i64 a0.Client, li .i64 a0.Session, li .i64 a0.Rect.X0, li .i64 a0.Rect.Y0, li .i64 a0.Rect.X1, li .i64 a0.Rect.Y1]))] (by kernel_rfl) (by kernel_rfl) (by kernel_rfl) ?_
          exact F65_j12_ok n a0 false
      · refine SimI.run 36 [(3, .one (lb false)), (53, .one (lb false)), (52, .tup []), (51, .tup []), (50, .tup []), (49, .one (lb false)), (48, .one (lb false)), (47, .tup []), (46, .tup []), (45, .tup []), (44, .one (lb false)), (43, .one (lb false)), (42, .tup []), (41, .tup []), (40, .tup []), (39, .one (lb false)), (38, .one (lb false)), (37, .tup []), (36, .tup []), (35, .tup []), (34, .one (lb false)), (33, .one (lb false)), (32, .tup []), (31, .tup []), (30, .tup []), (29, .one (lb false)), (28, .one (lb false)), (27, .tup []), (26, .tup []), (25, .tup []), (24, .one (lb false)), (23, .one (lb false)), (22, .tup []), (21, .tup []), (20, .tup []), (19, .tup [])] [] (by kernel_rfl) ?_
        refine SimI.done (by kernel_rfl) ?_
        refine SimE.thenN ?_
        refine Sim.pre (ts := [1, 3]) (os := [1]) (ow := []) [(1, .one (.ptr 1 0)), (3, .one (lb false))] [(1, some (.cells [li .i64 a0.Kind, li .i64 a0.ID, li .i64 a0.Which, li .i64 a0.To, li .i64 a0.At.X, li .i64 a0.At.Y, li .i64 a0.F.a0.N, ls a0.F.a0.Text, li .i64 a0.F.a1.N, ls a0.F.a1.Text, li .i64 a0.F.a2.N, ls a0.F.a2.Text, li .i64 a0.F.a3.N, ls a0.F.a3.Text, li .i64 a0.Value.N, ls a0.Value.Text, li .i64 a0.Client, li .i64 a0.Session, li .i64 a0.Rect.X0, li .i64 a0.Rect.Y0, li .i64 a0.Rect.X1, li .i64 a0.Rect.Y1]))] (by kernel_rfl) (by kernel_rfl) (by kernel_rfl) ?_
        exact F65_j12_ok n a0 false
    · refine SimI.run 41 [(3, .one (lb false)), (53, .one (lb false)), (52, .tup []), (51, .tup []), (50, .tup []), (49, .one (lb false)), (48, .one (lb false)), (47, .tup []), (46, .tup []), (45, .tup []), (44, .one (lb false)), (43, .one (lb false)), (42, .tup []), (41, .tup []), (40, .tup []), (39, .one (lb false)), (38, .one (lb false)), (37, .tup []), (36, .tup []), (35, .tup []), (34, .one (lb false)), (33, .one (lb false)), (32, .tup []), (31, .tup []), (30, .tup []), (29, .one (lb false)), (28, .one (lb false)), (27, .tup []), (26, .tup []), (25, .tup []), (24, .one (lb false)), (23, .one (lb false)), (22, .tup []), (21, .tup []), (20, .tup []), (19, .tup []), (18, .one (lb false)), (17, .one (lb false)), (16, .tup []), (15, .tup []), (14, .tup [])] [] (by kernel_rfl) ?_
      refine SimI.done (by kernel_rfl) ?_
      refine SimE.thenN ?_
      refine Sim.pre (ts := [1, 3]) (os := [1]) (ow := []) [(1, .one (.ptr 1 0)), (3, .one (lb false))] [(1, some (.cells [li .i64 a0.Kind, li .i64 a0.ID, li .i64 a0.Which, li .i64 a0.To, li .i64 a0.At.X, li .i64 a0.At.Y, li .i64 a0.F.a0.N, ls a0.F.a0.Text, li .i64 a0.F.a1.N, ls a0.F.a1.Text, li .i64 a0.F.a2.N, ls a0.F.a2.Text, li .i64 a0.F.a3.N, ls a0.F.a3.Text, li .i64 a0.Value.N, ls a0.Value.Text, li .i64 a0.Client, li .i64 a0.Session, li .i64 a0.Rect.X0, li .i64 a0.Rect.Y0, li .i64 a0.Rect.X1, li .i64 a0.Rect.Y1]))] (by kernel_rfl) (by kernel_rfl) (by kernel_rfl) ?_
      exact F65_j12_ok n a0 false
  · refine SimI.run 46 [(3, .one (lb false)), (53, .one (lb false)), (52, .tup []), (51, .tup []), (50, .tup []), (49, .one (lb false)), (48, .one (lb false)), (47, .tup []), (46, .tup []), (45, .tup []), (44, .one (lb false)), (43, .one (lb false)), (42, .tup []), (41, .tup []), (40, .tup []), (39, .one (lb false)), (38, .one (lb false)), (37, .tup []), (36, .tup []), (35, .tup []), (34, .one (lb false)), (33, .one (lb false)), (32, .tup []), (31, .tup []), (30, .tup []), (29, .one (lb false)), (28, .one (lb false)), (27, .tup []), (26, .tup []), (25, .tup []), (24, .one (lb false)), (23, .one (lb false)), (22, .tup []), (21, .tup []), (20, .tup []), (19, .tup []), (18, .one (lb false)), (17, .one (lb false)), (16, .tup []), (15, .tup []), (14, .tup []), (13, .one (lb false)), (12, .one (lb false)), (11, .tup []), (10, .tup []), (9, .tup [])] [] (by kernel_rfl) ?_
    refine SimI.done (by kernel_rfl) ?_
    refine SimE.thenN ?_
    refine Sim.pre (ts := [1, 3]) (os := [1]) (ow := []) [(1, .one (.ptr 1 0)), (3, .one (lb false))] [(1, some (.cells [li .i64 a0.Kind, li .i64 a0.ID, li .i64 a0.Which, li .i64 a0.To, li .i64 a0.At.X, li .i64 a0.At.Y, li .i64 a0.F.a0.N, ls a0.F.a0.Text, li .i64 a0.F.a1.N, ls a0.F.a1.Text, li .i64 a0.F.a2.N, ls a0.F.a2.Text, li .i64 a0.F.a3.N, ls a0.F.a3.Text, li .i64 a0.Value.N, ls a0.Value.Text, li .i64 a0.Client, li .i64 a0.Session, li .i64 a0.Rect.X0, li .i64 a0.Rect.Y0, li .i64 a0.Rect.X1, li .i64 a0.Rect.Y1]))] (by kernel_rfl) (by kernel_rfl) (by kernel_rfl) ?_
    exact F65_j12_ok n a0 false


-- 66: vedette/vedetteref10.Watches
def F66_e : Bool → PV × List Ob := fun r => (.one (lb r), [])
def F66 (n : Nat) (a0 : Command) : Option Bool :=
  (F76 n a0.Kind 6 8).bind fun (r1 : Bool) =>
  some r1
theorem F66_ok (n : Nat) (a0 : Command) : ∀ r, F66 n a0 = some r → D 66 [.agg [li .i64 a0.Kind, li .i64 a0.ID, li .i64 a0.Which, li .i64 a0.To, li .i64 a0.At.X, li .i64 a0.At.Y, li .i64 a0.F.a0.N, ls a0.F.a0.Text, li .i64 a0.F.a1.N, ls a0.F.a1.Text, li .i64 a0.F.a2.N, ls a0.F.a2.Text, li .i64 a0.F.a3.N, ls a0.F.a3.Text, li .i64 a0.Value.N, ls a0.Value.Text, li .i64 a0.Client, li .i64 a0.Session, li .i64 a0.Rect.X0, li .i64 a0.Rect.Y0, li .i64 a0.Rect.X1, li .i64 a0.Rect.Y1]] [] = some (F66_e r) := by
  refine fn_to (D := D) (n := n + 8) (nt := 6) (rs := pc66_r) (c := pc66_c5) (L := [(0, .agg [li .i64 a0.Kind, li .i64 a0.ID, li .i64 a0.Which, li .i64 a0.To, li .i64 a0.At.X, li .i64 a0.At.Y, li .i64 a0.F.a0.N, ls a0.F.a0.Text, li .i64 a0.F.a1.N, ls a0.F.a1.Text, li .i64 a0.F.a2.N, ls a0.F.a2.Text, li .i64 a0.F.a3.N, ls a0.F.a3.Text, li .i64 a0.Value.N, ls a0.Value.Text, li .i64 a0.Client, li .i64 a0.Session, li .i64 a0.Rect.X0, li .i64 a0.Rect.Y0, li .i64 a0.Rect.X1, li .i64 a0.Rect.Y1])]) (M := []) (k := 0) rfl rfl rfl rfl rfl rfl rfl ?_
  unfold F66
  refine Sim.seq ?_
  refine Sim.region0 ?_
  refine SimI.run 2 [(2, .one (lb false)), (1, .one (.ptr 1 0))] [(1, some (.cells [li .i64 a0.Kind, li .i64 a0.ID, li .i64 a0.Which, li .i64 a0.To, li .i64 a0.At.X, li .i64 a0.At.Y, li .i64 a0.F.a0.N, ls a0.F.a0.Text, li .i64 a0.F.a1.N, ls a0.F.a1.Text, li .i64 a0.F.a2.N, ls a0.F.a2.Text, li .i64 a0.F.a3.N, ls a0.F.a3.Text, li .i64 a0.Value.N, ls a0.Value.Text, li .i64 a0.Client, li .i64 a0.Session, li .i64 a0.Rect.X0, li .i64 a0.Rect.Y0, li .i64 a0.Rect.X1, li .i64 a0.Rect.Y1]))] (by kernel_rfl) ?_
  refine SimI.done (by kernel_rfl) ?_
  refine SimE.thenN ?_
  refine Sim.seq ?_
  refine Sim.region0 ?_
  refine SimI.run 2 [(4, .one (li .i64 a0.Kind)), (3, .one (.ptr 1 0))] [] (by kernel_rfl) ?_
  refine SimI.bind (og := F76 n a0.Kind 6 8) { dst := some 5, op := POp.call true [[], [], []] 76 [Operand.tmp 4, Operand.const (Value.int IntKind.i64 6), Operand.const (Value.int IntKind.i64 8)], guard := none, hints := [] } (fun r1 => [(5, .one (lb r1))]) (fun r1 => []) (by kernel_rfl) (fun r1 hr => pOp_eff (by kernel_rfl) (by kernel_rfl) (eff_call (ARGS := [.one (li .i64 a0.Kind), .one (li .i64 6), .one (li .i64 8)]) (by kernel_rfl) (args_clean (by kernel_rfl) (args_clean (by kernel_rfl) (args_clean (by kernel_rfl) args_nil))) (F76_ok n a0.Kind 6 8 r1 hr) (by kernel_rfl))) (fun r1 => ?_)
  refine SimI.run 1 [(2, .one (lb r1))] [] (by kernel_rfl) ?_
  refine SimI.done (by kernel_rfl) ?_
  refine SimE.thenN ?_
  refine Sim.ret ?_
  exact SimE.fin (by kernel_rfl)


-- 40: (*vedette/vedetteref13.Book).Do
def F40_e : (Int × Book_vedetteref13) → PV × List Ob := fun r => (.one (li .i64 r.1), [.cells [lb r.2.L.a0.On, li .i64 r.2.L.a0.Session, li .i64 r.2.L.a0.Start, li .i64 r.2.L.a0.Rect.X0, li .i64 r.2.L.a0.Rect.Y0, li .i64 r.2.L.a0.Rect.X1, li .i64 r.2.L.a0.Rect.Y1, lb r.2.L.a1.On, li .i64 r.2.L.a1.Session, li .i64 r.2.L.a1.Start, li .i64 r.2.L.a1.Rect.X0, li .i64 r.2.L.a1.Rect.Y0, li .i64 r.2.L.a1.Rect.X1, li .i64 r.2.L.a1.Rect.Y1, lb r.2.L.a2.On, li .i64 r.2.L.a2.Session, li .i64 r.2.L.a2.Start, li .i64 r.2.L.a2.Rect.X0, li .i64 r.2.L.a2.Rect.Y0, li .i64 r.2.L.a2.Rect.X1, li .i64 r.2.L.a2.Rect.Y1, lb r.2.L.a3.On, li .i64 r.2.L.a3.Session, li .i64 r.2.L.a3.Start, li .i64 r.2.L.a3.Rect.X0, li .i64 r.2.L.a3.Rect.Y0, li .i64 r.2.L.a3.Rect.X1, li .i64 r.2.L.a3.Rect.Y1]])
def F40_j22 (n : Nat) (a0 : Book_vedetteref13) (a1 : Command) (a2 : Int) (b15 : Bool) (ii16 : Int) (i17 : Int) (i18 : Int) (i19 : Int) (i20 : Int) (i21 : Int) : Option (Int × Book_vedetteref13) :=
    if a1.Client = 0 then
      some (0, (Book_vedetteref13.mk (A4.mk (Watch.mk b15 ii16 i17 (Rect.mk i18 i19 i20 i21)) a0.L.a1 a0.L.a2 a0.L.a3)))
    else
      if a1.Client = 1 then
        some (0, (Book_vedetteref13.mk (A4.mk a0.L.a0 (Watch.mk b15 ii16 i17 (Rect.mk i18 i19 i20 i21)) a0.L.a2 a0.L.a3)))
      else
        if a1.Client = 2 then
          some (0, (Book_vedetteref13.mk (A4.mk a0.L.a0 a0.L.a1 (Watch.mk b15 ii16 i17 (Rect.mk i18 i19 i20 i21)) a0.L.a3)))
        else
          if a1.Client = 3 then
            some (0, (Book_vedetteref13.mk (A4.mk a0.L.a0 a0.L.a1 a0.L.a2 (Watch.mk b15 ii16 i17 (Rect.mk i18 i19 i20 i21)))))
          else
            none
theorem F40_j22_ok (n : Nat) (a0 : Book_vedetteref13) (a1 : Command) (a2 : Int) (b15 : Bool) (ii16 : Int) (i17 : Int) (i18 : Int) (i19 : Int) (i20 : Int) (i21 : Int) : Sim Try.prog D (n + 8) pc40_c34 [(0, .one (.ptr 1000000 0)), (4, .one (.ptr 4 0)), (7, .one (.ptr 7 0))] [(4, some (.cells [li .i64 a1.Kind, li .i64 a1.ID, li .i64 a1.Which, li .i64 a1.To, li .i64 a1.At.X, li .i64 a1.At.Y, li .i64 a1.F.a0.N, ls a1.F.a0.Text, li .i64 a1.F.a1.N, ls a1.F.a1.Text, li .i64 a1.F.a2.N, ls a1.F.a2.Text, li .i64 a1.F.a3.N, ls a1.F.a3.Text, li .i64 a1.Value.N, ls a1.Value.Text, li .i64 a1.Client, li .i64 a1.Session, li .i64 a1.Rect.X0, li .i64 a1.Rect.Y0, li .i64 a1.Rect.X1, li .i64 a1.Rect.Y1])), (7, some (.cells [lb b15, li .i64 ii16, li .i64 i17, li .i64 i18, li .i64 i19, li .i64 i20, li .i64 i21])), (1000000, some (.cells [lb a0.L.a0.On, li .i64 a0.L.a0.Session, li .i64 a0.L.a0.Start, li .i64 a0.L.a0.Rect.X0, li .i64 a0.L.a0.Rect.Y0, li .i64 a0.L.a0.Rect.X1, li .i64 a0.L.a0.Rect.Y1, lb a0.L.a1.On, li .i64 a0.L.a1.Session, li .i64 a0.L.a1.Start, li .i64 a0.L.a1.Rect.X0, li .i64 a0.L.a1.Rect.Y0, li .i64 a0.L.a1.Rect.X1, li .i64 a0.L.a1.Rect.Y1, lb a0.L.a2.On, li .i64 a0.L.a2.Session, li .i64 a0.L.a2.Start, li .i64 a0.L.a2.Rect.X0, li .i64 a0.L.a2.Rect.Y0, li .i64 a0.L.a2.Rect.X1, li .i64 a0.L.a2.Rect.Y1, lb a0.L.a3.On, li .i64 a0.L.a3.Session, li .i64 a0.L.a3.Start, li .i64 a0.L.a3.Rect.X0, li .i64 a0.L.a3.Rect.Y0, li .i64 a0.L.a3.Rect.X1, li .i64 a0.L.a3.Rect.Y1]))] (F40_j22 n a0 a1 a2 b15 ii16 i17 i18 i19 i20 i21) (QF false pc40_r 1 F40_e) := by
    unfold F40_j22
    refine Sim.seq ?_
    refine Sim.region [(0, .one (.ptr 1000000 0)), (4, .one (.ptr 4 0)), (7, .one (.ptr 7 0))] [(4, some (.cells [li .i64 a1.Kind, li .i64 a1.ID, li .i64 a1.Which, li .i64 a1.To, li .i64 a1.At.X, li .i64 a1.At.Y, li .i64 a1.F.a0.N, ls a1.F.a0.Text, li .i64 a1.F.a1.N, ls a1.F.a1.Text, li .i64 a1.F.a2.N, ls a1.F.a2.Text, li .i64 a1.F.a3.N, ls a1.F.a3.Text, li .i64 a1.Value.N, ls a1.Value.Text, li .i64 a1.Client, li .i64 a1.Session, li .i64 a1.Rect.X0, li .i64 a1.Rect.Y0, li .i64 a1.Rect.X1, li .i64 a1.Rect.Y1])), (7, some (.cells [lb b15, li .i64 ii16, li .i64 i17, li .i64 i18, li .i64 i19, li .i64 i20, li .i64 i21])), (1000000, some (.cells [lb a0.L.a0.On, li .i64 a0.L.a0.Session, li .i64 a0.L.a0.Start, li .i64 a0.L.a0.Rect.X0, li .i64 a0.L.a0.Rect.Y0, li .i64 a0.L.a0.Rect.X1, li .i64 a0.L.a0.Rect.Y1, lb a0.L.a1.On, li .i64 a0.L.a1.Session, li .i64 a0.L.a1.Start, li .i64 a0.L.a1.Rect.X0, li .i64 a0.L.a1.Rect.Y0, li .i64 a0.L.a1.Rect.X1, li .i64 a0.L.a1.Rect.Y1, lb a0.L.a2.On, li .i64 a0.L.a2.Session, li .i64 a0.L.a2.Start, li .i64 a0.L.a2.Rect.X0, li .i64 a0.L.a2.Rect.Y0, li .i64 a0.L.a2.Rect.X1, li .i64 a0.L.a2.Rect.Y1, lb a0.L.a3.On, li .i64 a0.L.a3.Session, li .i64 a0.L.a3.Start, li .i64 a0.L.a3.Rect.X0, li .i64 a0.L.a3.Rect.Y0, li .i64 a0.L.a3.Rect.X1, li .i64 a0.L.a3.Rect.Y1]))] (by kernel_rfl) ?_
    refine SimI.run 6 [(76, .one (.ptr 1000000 0)), (75, .one (.ptr 1000000 0)), (74, .agg [lb b15, li .i64 ii16, li .i64 i17, li .i64 i18, li .i64 i19, li .i64 i20, li .i64 i21]), (73, .one (li .i64 a1.Client)), (72, .one (.ptr 4 16)), (71, .one (.ptr 1000000 0))] [] (by kernel_rfl) ?_
    refine SimI.casei 73 .i64 a1.Client 0 (by kernel_rfl) ?_ ?_
    · refine SimI.run 2 [(77, .one (.ptr 1000000 0))] [(1000000, some (.cells [lb b15, li .i64 ii16, li .i64 i17, li .i64 i18, li .i64 i19, li .i64 i20, li .i64 i21, lb a0.L.a1.On, li .i64 a0.L.a1.Session, li .i64 a0.L.a1.Start, li .i64 a0.L.a1.Rect.X0, li .i64 a0.L.a1.Rect.Y0, li .i64 a0.L.a1.Rect.X1, li .i64 a0.L.a1.Rect.Y1, lb a0.L.a2.On, li .i64 a0.L.a2.Session, li .i64 a0.L.a2.Start, li .i64 a0.L.a2.Rect.X0, li .i64 a0.L.a2.Rect.Y0, li .i64 a0.L.a2.Rect.X1, li .i64 a0.L.a2.Rect.Y1, lb a0.L.a3.On, li .i64 a0.L.a3.Session, li .i64 a0.L.a3.Start, li .i64 a0.L.a3.Rect.X0, li .i64 a0.L.a3.Rect.Y0, li .i64 a0.L.a3.Rect.X1, li .i64 a0.L.a3.Rect.Y1]))] (by kernel_rfl) ?_
      refine SimI.done (by kernel_rfl) ?_
      refine SimE.thenN ?_
      refine Sim.seq ?_
      refine Sim.region0 ?_
      refine SimI.run 1 [(6, .one (li .i64 0))] [] (by kernel_rfl) ?_
      refine SimI.done (by kernel_rfl) ?_
      refine SimE.thenN ?_
      refine Sim.ret ?_
      exact SimE.fin (by kernel_rfl)
    · refine SimI.casei 73 .i64 a1.Client 1 (by kernel_rfl) ?_ ?_
      · refine SimI.run 2 [(77, .one (.ptr 1000000 7))] [(1000000, some (.cells [lb a0.L.a0.On, li .i64 a0.L.a0.Session, li .i64 a0.L.a0.Start, li .i64 a0.L.a0.Rect.X0, li .i64 a0.L.a0.Rect.Y0, li .i64 a0.L.a0.Rect.X1, li .i64 a0.L.a0.Rect.Y1, lb b15, li .i64 ii16, li .i64 i17, li .i64 i18, li .i64 i19, li .i64 i20, li .i64 i21, lb a0.L.a2.On, li .i64 a0.L.a2.Session, li .i64 a0.L.a2.Start, li .i64 a0.L.a2.Rect.X0, li .i64 a0.L.a2.Rect.Y0, li .i64 a0.L.a2.Rect.X1, li .i64 a0.L.a2.Rect.Y1, lb a0.L.a3.On, li .i64 a0.L.a3.Session, li .i64 a0.L.a3.Start, li .i64 a0.L.a3.Rect.X0, li .i64 a0.L.a3.Rect.Y0, li .i64 a0.L.a3.Rect.X1, li .i64 a0.L.a3.Rect.Y1]))] (by kernel_rfl) ?_
        refine SimI.done (by kernel_rfl) ?_
        refine SimE.thenN ?_
        refine Sim.seq ?_
        refine Sim.region0 ?_
        refine SimI.run 1 [(6, .one (li .i64 0))] [] (by kernel_rfl) ?_
        refine SimI.done (by kernel_rfl) ?_
        refine SimE.thenN ?_
        refine Sim.ret ?_
        exact SimE.fin (by kernel_rfl)
      · refine SimI.casei 73 .i64 a1.Client 2 (by kernel_rfl) ?_ ?_
        · refine SimI.run 2 [(77, .one (.ptr 1000000 14))] [(1000000, some (.cells [lb a0.L.a0.On, li .i64 a0.L.a0.Session, li .i64 a0.L.a0.Start, li .i64 a0.L.a0.Rect.X0, li .i64 a0.L.a0.Rect.Y0, li .i64 a0.L.a0.Rect.X1, li .i64 a0.L.a0.Rect.Y1, lb a0.L.a1.On, li .i64 a0.L.a1.Session, li .i64 a0.L.a1.Start, li .i64 a0.L.a1.Rect.X0, li .i64 a0.L.a1.Rect.Y0, li .i64 a0.L.a1.Rect.X1, li .i64 a0.L.a1.Rect.Y1, lb b15, li .i64 ii16, li .i64 i17, li .i64 i18, li .i64 i19, li .i64 i20, li .i64 i21, lb a0.L.a3.On, li .i64 a0.L.a3.Session, li .i64 a0.L.a3.Start, li .i64 a0.L.a3.Rect.X0, li .i64 a0.L.a3.Rect.Y0, li .i64 a0.L.a3.Rect.X1, li .i64 a0.L.a3.Rect.Y1]))] (by kernel_rfl) ?_
          refine SimI.done (by kernel_rfl) ?_
          refine SimE.thenN ?_
          refine Sim.seq ?_
          refine Sim.region0 ?_
          refine SimI.run 1 [(6, .one (li .i64 0))] [] (by kernel_rfl) ?_
          refine SimI.done (by kernel_rfl) ?_
          refine SimE.thenN ?_
          refine Sim.ret ?_
          exact SimE.fin (by kernel_rfl)
        · refine SimI.casei 73 .i64 a1.Client 3 (by kernel_rfl) ?_ ?_
          · refine SimI.run 2 [(77, .one (.ptr 1000000 21))] [(1000000, some (.cells [lb a0.L.a0.On, li .i64 a0.L.a0.Session, li .i64 a0.L.a0.Start, li .i64 a0.L.a0.Rect.X0, li .i64 a0.L.a0.Rect.Y0, li .i64 a0.L.a0.Rect.X1, li .i64 a0.L.a0.Rect.Y1, lb a0.L.a1.On, li .i64 a0.L.a1.Session, li .i64 a0.L.a1.Start, li .i64 a0.L.a1.Rect.X0, li .i64 a0.L.a1.Rect.Y0, li .i64 a0.L.a1.Rect.X1, li .i64 a0.L.a1.Rect.Y1, lb a0.L.a2.On, li .i64 a0.L.a2.Session, li .i64 a0.L.a2.Start, li .i64 a0.L.a2.Rect.X0, li .i64 a0.L.a2.Rect.Y0, li .i64 a0.L.a2.Rect.X1, li .i64 a0.L.a2.Rect.Y1, lb b15, li .i64 ii16, li .i64 i17, li .i64 i18, li .i64 i19, li .i64 i20, li .i64 i21]))] (by kernel_rfl) ?_
            refine SimI.done (by kernel_rfl) ?_
            refine SimE.thenN ?_
            refine Sim.seq ?_
            refine Sim.region0 ?_
            refine SimI.run 1 [(6, .one (li .i64 0))] [] (by kernel_rfl) ?_
            refine SimI.done (by kernel_rfl) ?_
            refine SimE.thenN ?_
            refine Sim.ret ?_
            exact SimE.fin (by kernel_rfl)
          · exact SimI.vac rfl

def F40_j12 (n : Nat) (a0 : Book_vedetteref13) (a1 : Command) (a2 : Int) (b3 : Bool) (i4 : Int) (i5 : Int) : Option (Int × Book_vedetteref13) :=
    if a1.Kind == 6 then
      (F46 n a1.Rect).bind fun (r13 : Rect) =>
      F40_j22 n a0 a1 a2 true a1.Session a2 r13.X0 r13.Y0 r13.X1 r13.Y1
    else
      if a1.Kind == 7 then
        (F46 n a1.Rect).bind fun (r14 : Rect) =>
        F40_j22 n a0 a1 a2 b3 i4 i5 r14.X0 r14.Y0 r14.X1 r14.Y1
      else
        F40_j22 n a0 a1 a2 false i4 i5 0 0 0 0
theorem F40_j12_ok (n : Nat) (a0 : Book_vedetteref13) (a1 : Command) (a2 : Int) (b3 : Bool) (i4 : Int) (i5 : Int) (i6 : Int) (i7 : Int) (ii8 : Int) (i9 : Int) : Sim Try.prog D (n + 8) pc40_c26 [(0, .one (.ptr 1000000 0)), (2, .one (li .i64 a2)), (4, .one (.ptr 4 0)), (7, .one (.ptr 7 0))] [(4, some (.cells [li .i64 a1.Kind, li .i64 a1.ID, li .i64 a1.Which, li .i64 a1.To, li .i64 a1.At.X, li .i64 a1.At.Y, li .i64 a1.F.a0.N, ls a1.F.a0.Text, li .i64 a1.F.a1.N, ls a1.F.a1.Text, li .i64 a1.F.a2.N, ls a1.F.a2.Text, li .i64 a1.F.a3.N, ls a1.F.a3.Text, li .i64 a1.Value.N, ls a1.Value.Text, li .i64 a1.Client, li .i64 a1.Session, li .i64 a1.Rect.X0, li .i64 a1.Rect.Y0, li .i64 a1.Rect.X1, li .i64 a1.Rect.Y1])), (7, some (.cells [lb b3, li .i64 i4, li .i64 i5, li .i64 i6, li .i64 i7, li .i64 ii8, li .i64 i9])), (1000000, some (.cells [lb a0.L.a0.On, li .i64 a0.L.a0.Session, li .i64 a0.L.a0.Start, li .i64 a0.L.a0.Rect.X0, li .i64 a0.L.a0.Rect.Y0, li .i64 a0.L.a0.Rect.X1, li .i64 a0.L.a0.Rect.Y1, lb a0.L.a1.On, li .i64 a0.L.a1.Session, li .i64 a0.L.a1.Start, li .i64 a0.L.a1.Rect.X0, li .i64 a0.L.a1.Rect.Y0, li .i64 a0.L.a1.Rect.X1, li .i64 a0.L.a1.Rect.Y1, lb a0.L.a2.On, li .i64 a0.L.a2.Session, li .i64 a0.L.a2.Start, li .i64 a0.L.a2.Rect.X0, li .i64 a0.L.a2.Rect.Y0, li .i64 a0.L.a2.Rect.X1, li .i64 a0.L.a2.Rect.Y1, lb a0.L.a3.On, li .i64 a0.L.a3.Session, li .i64 a0.L.a3.Start, li .i64 a0.L.a3.Rect.X0, li .i64 a0.L.a3.Rect.Y0, li .i64 a0.L.a3.Rect.X1, li .i64 a0.L.a3.Rect.Y1]))] (F40_j12 n a0 a1 a2 b3 i4 i5) (QB 0 (QT Try.prog D (n + 8) pc40_c34 (QF false pc40_r 1 F40_e))) := by
    unfold F40_j12
    refine Sim.seq ?_
    refine Sim.region [(0, .one (.ptr 1000000 0)), (2, .one (li .i64 a2)), (4, .one (.ptr 4 0)), (7, .one (.ptr 7 0))] [(4, some (.cells [li .i64 a1.Kind, li .i64 a1.ID, li .i64 a1.Which, li .i64 a1.To, li .i64 a1.At.X, li .i64 a1.At.Y, li .i64 a1.F.a0.N, ls a1.F.a0.Text, li .i64 a1.F.a1.N, ls a1.F.a1.Text, li .i64 a1.F.a2.N, ls a1.F.a2.Text, li .i64 a1.F.a3.N, ls a1.F.a3.Text, li .i64 a1.Value.N, ls a1.Value.Text, li .i64 a1.Client, li .i64 a1.Session, li .i64 a1.Rect.X0, li .i64 a1.Rect.Y0, li .i64 a1.Rect.X1, li .i64 a1.Rect.Y1])), (7, some (.cells [lb b3, li .i64 i4, li .i64 i5, li .i64 i6, li .i64 i7, li .i64 ii8, li .i64 i9])), (1000000, some (.cells [lb a0.L.a0.On, li .i64 a0.L.a0.Session, li .i64 a0.L.a0.Start, li .i64 a0.L.a0.Rect.X0, li .i64 a0.L.a0.Rect.Y0, li .i64 a0.L.a0.Rect.X1, li .i64 a0.L.a0.Rect.Y1, lb a0.L.a1.On, li .i64 a0.L.a1.Session, li .i64 a0.L.a1.Start, li .i64 a0.L.a1.Rect.X0, li .i64 a0.L.a1.Rect.Y0, li .i64 a0.L.a1.Rect.X1, li .i64 a0.L.a1.Rect.Y1, lb a0.L.a2.On, li .i64 a0.L.a2.Session, li .i64 a0.L.a2.Start, li .i64 a0.L.a2.Rect.X0, li .i64 a0.L.a2.Rect.Y0, li .i64 a0.L.a2.Rect.X1, li .i64 a0.L.a2.Rect.Y1, lb a0.L.a3.On, li .i64 a0.L.a3.Session, li .i64 a0.L.a3.Start, li .i64 a0.L.a3.Rect.X0, li .i64 a0.L.a3.Rect.Y0, li .i64 a0.L.a3.Rect.X1, li .i64 a0.L.a3.Rect.Y1]))] (by kernel_rfl) ?_
    refine SimI.run 4 [(52, .one (lb (a1.Kind == 6))), (55, .one (lb (a1.Kind == 6))), (54, .one (li .i64 a1.Kind)), (53, .one (.ptr 4 0))] [] (by kernel_rfl) ?_
    refine SimI.done (by kernel_rfl) ?_
    refine SimE.thenN ?_
    refine Sim.cond (a1.Kind == 6) (by kernel_rfl) ?_ ?_
    · refine Sim.region0 ?_
      refine SimI.run 5 [(60, .agg [li .i64 a1.Rect.X0, li .i64 a1.Rect.Y0, li .i64 a1.Rect.X1, li .i64 a1.Rect.Y1]), (59, .one (.ptr 4 18)), (58, .one (li .i64 a2)), (57, .one (li .i64 a1.Session)), (56, .one (.ptr 4 17))] [] (by kernel_rfl) ?_
      refine SimI.bind (og := F46 n a1.Rect) { dst := some 61, op := POp.call false [[]] 46 [Operand.tmp 60], guard := none, hints := [(60, Hint.imm)] } (fun r13 => [(61, .agg [li .i64 r13.X0, li .i64 r13.Y0, li .i64 r13.X1, li .i64 r13.Y1])]) (fun r13 => []) (by kernel_rfl) (fun r13 hr => pOp_eff (by kernel_rfl) (by kernel_rfl) (eff_call (ARGS := [.agg [li .i64 a1.Rect.X0, li .i64 a1.Rect.Y0, li .i64 a1.Rect.X1, li .i64 a1.Rect.Y1]]) (by kernel_rfl) (args_clean (by kernel_rfl) args_nil) (F46_ok n a1.Rect r13 hr) (by kernel_rfl))) (fun r13 => ?_)
      refine SimI.run 2 [(62, .agg [lb true, li .i64 a1.Session, li .i64 a2, li .i64 r13.X0, li .i64 r13.Y0, li .i64 r13.X1, li .i64 r13.Y1])] [(7, some (.cells [lb true, li .i64 a1.Session, li .i64 a2, li .i64 r13.X0, li .i64 r13.Y0, li .i64 r13.X1, li .i64 r13.Y1]))] (by kernel_rfl) ?_
      refine SimI.done (by kernel_rfl) ?_
      refine SimE.blockN ?_
      refine SimE.thenN ?_
      refine Sim.pre (ts := [0, 4, 7]) (os := [4, 7, 1000000]) (ow := []) [(0, .one (.ptr 1000000 0)), (4, .one (.ptr 4 0)), (7, .one (.ptr 7 0))] [(4, some (.cells [li .i64 a1.Kind, li .i64 a1.ID, li .i64 a1.Which, li .i64 a1.To, li .i64 a1.At.X, li .i64 a1.At.Y, li .i64 a1.F.a0.N, ls a1.F.a0.Text, li .i64 a1.F.a1.N, ls a1.F.a1.Text, li .i64 a1.F.a2.N, ls a1.F.a2.Text, li .i64 a1.F.a3.N, ls a1.F.a3.Text, li .i64 a1.Value.N, ls a1.Value.Text, li .i64 a1.Client, li .i64 a1.Session, li .i64 a1.Rect.X0, li .i64 a1.Rect.Y0, li .i64 a1.Rect.X1, li .i64 a1.Rect.Y1])), (7, some (.cells [lb true, li .i64 a1.Session, li .i64 a2, li .i64 r13.X0, li .i64 r13.Y0, li .i64 r13.X1, li .i64 r13.Y1])), (1000000, some (.cells [lb a0.L.a0.On, li .i64 a0.L.a0.Session, li .i64 a0.L.a0.Start, li .i64 a0.L.a0.Rect.X0, li .i64 a0.L.a0.Rect.Y0, li .i64 a0.L.a0.Rect.X1, li .i64 a0.L.a0.Rect.Y1, lb a0.L.a1.On, li .i64 a0.L.a1.Session, li .i64 a0.L.a1.Start, li .i64 a0.L.a1.Rect.X0, li .i64 a0.L.a1.Rect.Y0, li .i64 a0.L.a1.Rect.X1, li .i64 a0.L.a1.Rect.Y1, lb a0.L.a2.On, li .i64 a0.L.a2.Session, li .i64 a0.L.a2.Start, li .i64 a0.L.a2.Rect.X0, li .i64 a0.L.a2.Rect.Y0, li .i64 a0.L.a2.Rect.X1, li .i64 a0.L.a2.Rect.Y1, lb a0.L.a3.On, li .i64 a0.L.a3.Session, li .i64 a0.L.a3.Start, li .i64 a0.L.a3.Rect.X0, li .i64 a0.L.a3.Rect.Y0, li .i64 a0.L.a3.Rect.X1, li .i64 a0.L.a3.Rect.Y1]))] (by kernel_rfl) (by kernel_rfl) (by kernel_rfl) ?_
      exact F40_j22_ok n a0 a1 a2 true a1.Session a2 r13.X0 r13.Y0 r13.X1 r13.Y1
    · refine Sim.seq ?_
      refine Sim.region0 ?_
      refine SimI.run 4 [(63, .one (lb (a1.Kind == 7))), (66, .one (lb (a1.Kind == 7))), (65, .one (li .i64 a1.Kind)), (64, .one (.ptr 4 0))] [] (by kernel_rfl) ?_
      refine SimI.done (by kernel_rfl) ?_
      refine SimE.thenN ?_
      refine Sim.cond (a1.Kind == 7) (by kernel_rfl) ?_ ?_
      · refine Sim.region0 ?_
        refine SimI.run 2 [(68, .agg [li .i64 a1.Rect.X0, li .i64 a1.Rect.Y0, li .i64 a1.Rect.X1, li .i64 a1.Rect.Y1]), (67, .one (.ptr 4 18))] [] (by kernel_rfl) ?_
        refine SimI.bind (og := F46 n a1.Rect) { dst := some 69, op := POp.call true [[]] 46 [Operand.tmp 68], guard := none, hints := [] } (fun r14 => [(69, .agg [li .i64 r14.X0, li .i64 r14.Y0, li .i64 r14.X1, li .i64 r14.Y1])]) (fun r14 => []) (by kernel_rfl) (fun r14 hr => pOp_eff (by kernel_rfl) (by kernel_rfl) (eff_call (ARGS := [.agg [li .i64 a1.Rect.X0, li .i64 a1.Rect.Y0, li .i64 a1.Rect.X1, li .i64 a1.Rect.Y1]]) (by kernel_rfl) (args_clean (by kernel_rfl) args_nil) (F46_ok n a1.Rect r14 hr) (by kernel_rfl))) (fun r14 => ?_)
        refine SimI.run 2 [(70, .one (.ptr 7 3))] [(7, some (.cells [lb b3, li .i64 i4, li .i64 i5, li .i64 r14.X0, li .i64 r14.Y0, li .i64 r14.X1, li .i64 r14.Y1]))] (by kernel_rfl) ?_
        refine SimI.done (by kernel_rfl) ?_
        refine SimE.blockN ?_
        refine SimE.thenN ?_
        refine Sim.pre (ts := [0, 4, 7]) (os := [4, 7, 1000000]) (ow := []) [(0, .one (.ptr 1000000 0)), (4, .one (.ptr 4 0)), (7, .one (.ptr 7 0))] [(4, some (.cells [li .i64 a1.Kind, li .i64 a1.ID, li .i64 a1.Which, li .i64 a1.To, li .i64 a1.At.X, li .i64 a1.At.Y, li .i64 a1.F.a0.N, ls a1.F.a0.Text, li .i64 a1.F.a1.N, ls a1.F.a1.Text, li .i64 a1.F.a2.N, ls a1.F.a2.Text, li .i64 a1.F.a3.N, ls a1.F.a3.Text, li .i64 a1.Value.N, ls a1.Value.Text, li .i64 a1.Client, li .i64 a1.Session, li .i64 a1.Rect.X0, li .i64 a1.Rect.Y0, li .i64 a1.Rect.X1, li .i64 a1.Rect.Y1])), (7, some (.cells [lb b3, li .i64 i4, li .i64 i5, li .i64 r14.X0, li .i64 r14.Y0, li .i64 r14.X1, li .i64 r14.Y1])), (1000000, some (.cells [lb a0.L.a0.On, li .i64 a0.L.a0.Session, li .i64 a0.L.a0.Start, li .i64 a0.L.a0.Rect.X0, li .i64 a0.L.a0.Rect.Y0, li .i64 a0.L.a0.Rect.X1, li .i64 a0.L.a0.Rect.Y1, lb a0.L.a1.On, li .i64 a0.L.a1.Session, li .i64 a0.L.a1.Start, li .i64 a0.L.a1.Rect.X0, li .i64 a0.L.a1.Rect.Y0, li .i64 a0.L.a1.Rect.X1, li .i64 a0.L.a1.Rect.Y1, lb a0.L.a2.On, li .i64 a0.L.a2.Session, li .i64 a0.L.a2.Start, li .i64 a0.L.a2.Rect.X0, li .i64 a0.L.a2.Rect.Y0, li .i64 a0.L.a2.Rect.X1, li .i64 a0.L.a2.Rect.Y1, lb a0.L.a3.On, li .i64 a0.L.a3.Session, li .i64 a0.L.a3.Start, li .i64 a0.L.a3.Rect.X0, li .i64 a0.L.a3.Rect.Y0, li .i64 a0.L.a3.Rect.X1, li .i64 a0.L.a3.Rect.Y1]))] (by kernel_rfl) (by kernel_rfl) (by kernel_rfl) ?_
        exact F40_j22_ok n a0 a1 a2 b3 i4 i5 r14.X0 r14.Y0 r14.X1 r14.Y1
      · refine Sim.region0 ?_
        refine SimI.run 5 [(25, .one (.ptr 7 3)), (24, .one (.ptr 7 0)), (23, .agg [li .i64 0, li .i64 0, li .i64 0, li .i64 0])] [(7, some (.cells [lb false, li .i64 i4, li .i64 i5, li .i64 0, li .i64 0, li .i64 0, li .i64 0])), (7, some (.cells [lb false, li .i64 i4, li .i64 i5, li .i64 i6, li .i64 i7, li .i64 ii8, li .i64 i9]))] (by kernel_rfl) ?_
        refine SimI.done (by kernel_rfl) ?_
        refine SimE.blockN ?_
        refine SimE.thenN ?_
        refine Sim.pre (ts := [0, 4, 7]) (os := [4, 7, 1000000]) (ow := []) [(0, .one (.ptr 1000000 0)), (4, .one (.ptr 4 0)), (7, .one (.ptr 7 0))] [(4, some (.cells [li .i64 a1.Kind, li .i64 a1.ID, li .i64 a1.Which, li .i64 a1.To, li .i64 a1.At.X, li .i64 a1.At.Y, li .i64 a1.F.a0.N, ls a1.F.a0.Text, li .i64 a1.F.a1.N, ls a1.F.a1.Text, li .i64 a1.F.a2.N, ls a1.F.a2.Text, li .i64 a1.F.a3.N, ls a1.F.a3.Text, li .i64 a1.Value.N, ls a1.Value.Text, li .i64 a1.Client, li .i64 a1.Session, li .i64 a1.Rect.X0, li .i64 a1.Rect.Y0, li .i64 a1.Rect.X1, li .i64 a1.Rect.Y1])), (7, some (.cells [lb false, li .i64 i4, li .i64 i5, li .i64 0, li .i64 0, li .i64 0, li .i64 0])), (1000000, some (.cells [lb a0.L.a0.On, li .i64 a0.L.a0.Session, li .i64 a0.L.a0.Start, li .i64 a0.L.a0.Rect.X0, li .i64 a0.L.a0.Rect.Y0, li .i64 a0.L.a0.Rect.X1, li .i64 a0.L.a0.Rect.Y1, lb a0.L.a1.On, li .i64 a0.L.a1.Session, li .i64 a0.L.a1.Start, li .i64 a0.L.a1.Rect.X0, li .i64 a0.L.a1.Rect.Y0, li .i64 a0.L.a1.Rect.X1, li .i64 a0.L.a1.Rect.Y1, lb a0.L.a2.On, li .i64 a0.L.a2.Session, li .i64 a0.L.a2.Start, li .i64 a0.L.a2.Rect.X0, li .i64 a0.L.a2.Rect.Y0, li .i64 a0.L.a2.Rect.X1, li .i64 a0.L.a2.Rect.Y1, lb a0.L.a3.On, li .i64 a0.L.a3.Session, li .i64 a0.L.a3.Start, li .i64 a0.L.a3.Rect.X0, li .i64 a0.L.a3.Rect.Y0, li .i64 a0.L.a3.Rect.X1, li .i64 a0.L.a3.Rect.Y1]))] (by kernel_rfl) (by kernel_rfl) (by kernel_rfl) ?_
        exact F40_j22_ok n a0 a1 a2 false i4 i5 0 0 0 0

def F40_j11 (n : Nat) (a0 : Book_vedetteref13) (a1 : Command) (a2 : Int) (b3 : Bool) (i4 : Int) (i5 : Int) : Option (Int × Book_vedetteref13) :=
    if a1.Kind != 6 then
      if !(b3) then
        some (20, a0)
      else
        if a1.Session != i4 then
          some (20, a0)
        else
          F40_j12 n a0 a1 a2 b3 i4 i5
    else
      F40_j12 n a0 a1 a2 b3 i4 i5
theorem F40_j11_ok (n : Nat) (a0 : Book_vedetteref13) (a1 : Command) (a2 : Int) (b3 : Bool) (i4 : Int) (i5 : Int) (i6 : Int) (i7 : Int) (ii8 : Int) (i9 : Int) : Sim Try.prog D (n + 8) pc40_c12 [(0, .one (.ptr 1000000 0)), (2, .one (li .i64 a2)), (4, .one (.ptr 4 0)), (7, .one (.ptr 7 0))] [(4, some (.cells [li .i64 a1.Kind, li .i64 a1.ID, li .i64 a1.Which, li .i64 a1.To, li .i64 a1.At.X, li .i64 a1.At.Y, li .i64 a1.F.a0.N, ls a1.F.a0.Text, li .i64 a1.F.a1.N, ls a1.F.a1.Text, li .i64 a1.F.a2.N, ls a1.F.a2.Text, li .i64 a1.F.a3.N, ls a1.F.a3.Text, li .i64 a1.Value.N, ls a1.Value.Text, li .i64 a1.Client, li .i64 a1.Session, li .i64 a1.Rect.X0, li .i64 a1.Rect.Y0, li .i64 a1.Rect.X1, li .i64 a1.Rect.Y1])), (7, some (.cells [lb b3, li .i64 i4, li .i64 i5, li .i64 i6, li .i64 i7, li .i64 ii8, li .i64 i9])), (1000000, some (.cells [lb a0.L.a0.On, li .i64 a0.L.a0.Session, li .i64 a0.L.a0.Start, li .i64 a0.L.a0.Rect.X0, li .i64 a0.L.a0.Rect.Y0, li .i64 a0.L.a0.Rect.X1, li .i64 a0.L.a0.Rect.Y1, lb a0.L.a1.On, li .i64 a0.L.a1.Session, li .i64 a0.L.a1.Start, li .i64 a0.L.a1.Rect.X0, li .i64 a0.L.a1.Rect.Y0, li .i64 a0.L.a1.Rect.X1, li .i64 a0.L.a1.Rect.Y1, lb a0.L.a2.On, li .i64 a0.L.a2.Session, li .i64 a0.L.a2.Start, li .i64 a0.L.a2.Rect.X0, li .i64 a0.L.a2.Rect.Y0, li .i64 a0.L.a2.Rect.X1, li .i64 a0.L.a2.Rect.Y1, lb a0.L.a3.On, li .i64 a0.L.a3.Session, li .i64 a0.L.a3.Start, li .i64 a0.L.a3.Rect.X0, li .i64 a0.L.a3.Rect.Y0, li .i64 a0.L.a3.Rect.X1, li .i64 a0.L.a3.Rect.Y1]))] (F40_j11 n a0 a1 a2 b3 i4 i5) (QT Try.prog D (n + 8) pc40_c27 (QB 0 (QT Try.prog D (n + 8) pc40_c34 (QF false pc40_r 1 F40_e)))) := by
    unfold F40_j11
    refine Sim.region [(0, .one (.ptr 1000000 0)), (2, .one (li .i64 a2)), (4, .one (.ptr 4 0)), (7, .one (.ptr 7 0))] [(4, some (.cells [li .i64 a1.Kind, li .i64 a1.ID, li .i64 a1.Which, li .i64 a1.To, li .i64 a1.At.X, li .i64 a1.At.Y, li .i64 a1.F.a0.N, ls a1.F.a0.Text, li .i64 a1.F.a1.N, ls a1.F.a1.Text, li .i64 a1.F.a2.N, ls a1.F.a2.Text, li .i64 a1.F.a3.N, ls a1.F.a3.Text, li .i64 a1.Value.N, ls a1.Value.Text, li .i64 a1.Client, li .i64 a1.Session, li .i64 a1.Rect.X0, li .i64 a1.Rect.Y0, li .i64 a1.Rect.X1, li .i64 a1.Rect.Y1])), (7, some (.cells [lb b3, li .i64 i4, li .i64 i5, li .i64 i6, li .i64 i7, li .i64 ii8, li .i64 i9])), (1000000, some (.cells [lb a0.L.a0.On, li .i64 a0.L.a0.Session, li .i64 a0.L.a0.Start, li .i64 a0.L.a0.Rect.X0, li .i64 a0.L.a0.Rect.Y0, li .i64 a0.L.a0.Rect.X1, li .i64 a0.L.a0.Rect.Y1, lb a0.L.a1.On, li .i64 a0.L.a1.Session, li .i64 a0.L.a1.Start, li .i64 a0.L.a1.Rect.X0, li .i64 a0.L.a1.Rect.Y0, li .i64 a0.L.a1.Rect.X1, li .i64 a0.L.a1.Rect.Y1, lb a0.L.a2.On, li .i64 a0.L.a2.Session, li .i64 a0.L.a2.Start, li .i64 a0.L.a2.Rect.X0, li .i64 a0.L.a2.Rect.Y0, li .i64 a0.L.a2.Rect.X1, li .i64 a0.L.a2.Rect.Y1, lb a0.L.a3.On, li .i64 a0.L.a3.Session, li .i64 a0.L.a3.Start, li .i64 a0.L.a3.Rect.X0, li .i64 a0.L.a3.Rect.Y0, li .i64 a0.L.a3.Rect.X1, li .i64 a0.L.a3.Rect.Y1]))] (by kernel_rfl) ?_
    refine SimI.run 4 [(40, .one (lb (a1.Kind != 6))), (39, .one (lb (a1.Kind != 6))), (38, .one (li .i64 a1.Kind)), (37, .one (.ptr 4 0))] [] (by kernel_rfl) ?_
    refine SimI.split 40 (a1.Kind != 6) (by kernel_rfl) ?_ ?_
    · refine SimI.run 4 [(44, .one (lb (!(b3)))), (43, .one (lb (!(b3)))), (42, .one (lb b3)), (41, .one (.ptr 7 0))] [] (by kernel_rfl) ?_
      refine SimI.split 44 (!(b3)) (by kernel_rfl) ?_ ?_
      · refine SimI.run 8 [(26, .one (lb true)), (51, .one (lb true)), (50, .one (lb true)), (49, .tup []), (48, .tup []), (47, .tup []), (46, .tup []), (45, .tup [])] [] (by kernel_rfl) ?_
        refine SimI.done (by kernel_rfl) ?_
        refine SimE.thenN ?_
        refine Sim.condT (by kernel_rfl) ?_
        refine Sim.seq ?_
        refine Sim.region0 ?_
        refine SimI.run 1 [(6, .one (li .i64 20))] [] (by kernel_rfl) ?_
        refine SimI.done (by kernel_rfl) ?_
        refine SimE.thenN ?_
        refine Sim.ret ?_
        refine SimE.blockR ?_
        refine SimE.thenR ?_
        exact SimE.fin (by kernel_rfl)
      · refine SimI.run 8 [(26, .one (lb (a1.Session != i4))), (51, .one (lb (a1.Session != i4))), (50, .one (lb (a1.Session != i4))), (49, .one (lb (a1.Session != i4))), (48, .one (li .i64 i4)), (47, .one (.ptr 7 1)), (46, .one (li .i64 a1.Session)), (45, .one (.ptr 4 17))] [] (by kernel_rfl) ?_
        refine SimI.done (by kernel_rfl) ?_
        refine SimE.thenN ?_
        refine Sim.cond (a1.Session != i4) (by kernel_rfl) ?_ ?_
        · refine Sim.seq ?_
          refine Sim.region0 ?_
          refine SimI.run 1 [(6, .one (li .i64 20))] [] (by kernel_rfl) ?_
          refine SimI.done (by kernel_rfl) ?_
          refine SimE.thenN ?_
          refine Sim.ret ?_
          refine SimE.blockR ?_
          refine SimE.thenR ?_
          exact SimE.fin (by kernel_rfl)
        · refine Sim.pre (ts := [0, 2, 4, 7]) (os := [4, 7, 1000000]) (ow := []) [(0, .one (.ptr 1000000 0)), (2, .one (li .i64 a2)), (4, .one (.ptr 4 0)), (7, .one (.ptr 7 0))] [(4, some (.cells [li .i64 a1.Kind, li .i64 a1.ID, li .i64 a1.Which, li .i64 a1.To, li .i64 a1.At.X, li .i64 a1.At.Y, li .i64 a1.F.a0.N, ls a1.F.a0.Text, li .i64 a1.F.a1.N, ls a1.F.a1.Text, li .i64 a1.F.a2.N, ls a1.F.a2.Text, li .i64 a1.F.a3.N, ls a1.F.a3.Text, li .i64 a1.Value.N, ls a1.Value.Text, li .i64 a1.Client, li .i64 a1.Session, li .i64 a1.Rect.X0, li .i64 a1.Rect.Y0, li .i64 a1.Rect.X1, li .i64 a1.Rect.Y1])), (7, some (.cells [lb b3, li .i64 i4, li .i64 i5, li .i64 i6, li .i64 i7, li .i64 ii8, li .i64 i9])), (1000000, some (.cells [lb a0.L.a0.On, li .i64 a0.L.a0.Session, li .i64 a0.L.a0.Start, li .i64 a0.L.a0.Rect.X0, li .i64 a0.L.a0.Rect.Y0, li .i64 a0.L.a0.Rect.X1, li .i64 a0.L.a0.Rect.Y1, lb a0.L.a1.On, li .i64 a0.L.a1.Session, li .i64 a0.L.a1.Start, li .i64 a0.L.a1.Rect.X0, li .i64 a0.L.a1.Rect.Y0, li .i64 a0.L.a1.Rect.X1, li .i64 a0.L.a1.Rect.Y1, lb a0.L.a2.On, li .i64 a0.L.a2.Session, li .i64 a0.L.a2.Start, li .i64 a0.L.a2.Rect.X0, li .i64 a0.L.a2.Rect.Y0, li .i64 a0.L.a2.Rect.X1, li .i64 a0.L.a2.Rect.Y1, lb a0.L.a3.On, li .i64 a0.L.a3.Session, li .i64 a0.L.a3.Start, li .i64 a0.L.a3.Rect.X0, li .i64 a0.L.a3.Rect.Y0, li .i64 a0.L.a3.Rect.X1, li .i64 a0.L.a3.Rect.Y1]))] (by kernel_rfl) (by kernel_rfl) (by kernel_rfl) ?_
          exact F40_j12_ok n a0 a1 a2 b3 i4 i5 i6 i7 ii8 i9
    · refine SimI.run 12 [(26, .one (lb false)), (51, .one (lb false)), (50, .tup []), (49, .tup []), (48, .tup []), (47, .tup []), (46, .tup []), (45, .tup []), (44, .tup []), (43, .tup []), (42, .tup []), (41, .tup [])] [] (by kernel_rfl) ?_
      refine SimI.done (by kernel_rfl) ?_
      refine SimE.thenN ?_
      refine Sim.condF (by kernel_rfl) ?_
      refine Sim.pre (ts := [0, 2, 4, 7]) (os := [4, 7, 1000000]) (ow := []) [(0, .one (.ptr 1000000 0)), (2, .one (li .i64 a2)), (4, .one (.ptr 4 0)), (7, .one (.ptr 7 0))] [(4, some (.cells [li .i64 a1.Kind, li .i64 a1.ID, li .i64 a1.Which, li .i64 a1.To, li .i64 a1.At.X, li .i64 a1.At.Y, li .i64 a1.F.a0.N, ls a1.F.a0.Text, li .i64 a1.F.a1.N, ls a1.F.a1.Text, li .i64 a1.F.a2.N, ls a1.F.a2.Text, li .i64 a1.F.a3.N, ls a1.F.a3.Text, li .i64 a1.Value.N, ls a1.Value.Text, li .i64 a1.Client, li .i64 a1.Session, li .i64 a1.Rect.X0, li .i64 a1.Rect.Y0, li .i64 a1.Rect.X1, li .i64 a1.Rect.Y1])), (7, some (.cells [lb b3, li .i64 i4, li .i64 i5, li .i64 i6, li .i64 i7, li .i64 ii8, li .i64 i9])), (1000000, some (.cells [lb a0.L.a0.On, li .i64 a0.L.a0.Session, li .i64 a0.L.a0.Start, li .i64 a0.L.a0.Rect.X0, li .i64 a0.L.a0.Rect.Y0, li .i64 a0.L.a0.Rect.X1, li .i64 a0.L.a0.Rect.Y1, lb a0.L.a1.On, li .i64 a0.L.a1.Session, li .i64 a0.L.a1.Start, li .i64 a0.L.a1.Rect.X0, li .i64 a0.L.a1.Rect.Y0, li .i64 a0.L.a1.Rect.X1, li .i64 a0.L.a1.Rect.Y1, lb a0.L.a2.On, li .i64 a0.L.a2.Session, li .i64 a0.L.a2.Start, li .i64 a0.L.a2.Rect.X0, li .i64 a0.L.a2.Rect.Y0, li .i64 a0.L.a2.Rect.X1, li .i64 a0.L.a2.Rect.Y1, lb a0.L.a3.On, li .i64 a0.L.a3.Session, li .i64 a0.L.a3.Start, li .i64 a0.L.a3.Rect.X0, li .i64 a0.L.a3.Rect.Y0, li .i64 a0.L.a3.Rect.X1, li .i64 a0.L.a3.Rect.Y1]))] (by kernel_rfl) (by kernel_rfl) (by kernel_rfl) ?_
      exact F40_j12_ok n a0 a1 a2 b3 i4 i5 i6 i7 ii8 i9

def F40_j10 (n : Nat) (a0 : Book_vedetteref13) (a1 : Command) (a2 : Int) (b3 : Bool) (i4 : Int) (i5 : Int) (i6 : Int) (i7 : Int) (ii8 : Int) (i9 : Int) : Option (Int × Book_vedetteref13) :=
    if a1.Kind == 6 then
      if decide (a1.Session ≤ i4) then
        if decide (a1.Session ≤ i4) then
          some (20, a0)
        else
          F40_j12 n a0 a1 a2 b3 i4 i5
      else
        F40_j11 n a0 a1 a2 b3 i4 i5
    else
      F40_j11 n a0 a1 a2 b3 i4 i5
theorem F40_j10_ok (n : Nat) (a0 : Book_vedetteref13) (a1 : Command) (a2 : Int) (b3 : Bool) (i4 : Int) (i5 : Int) (i6 : Int) (i7 : Int) (ii8 : Int) (i9 : Int) : Sim Try.prog D (n + 8) pc40_c35 [(0, .one (.ptr 1000000 0)), (2, .one (li .i64 a2)), (4, .one (.ptr 4 0)), (7, .one (.ptr 7 0))] [(4, some (.cells [li .i64 a1.Kind, li .i64 a1.ID, li .i64 a1.Which, li .i64 a1.To, li .i64 a1.At.X, li .i64 a1.At.Y, li .i64 a1.F.a0.N, ls a1.F.a0.Text, li .i64 a1.F.a1.N, ls a1.F.a1.Text, li .i64 a1.F.a2.N, ls a1.F.a2.Text, li .i64 a1.F.a3.N, ls a1.F.a3.Text, li .i64 a1.Value.N, ls a1.Value.Text, li .i64 a1.Client, li .i64 a1.Session, li .i64 a1.Rect.X0, li .i64 a1.Rect.Y0, li .i64 a1.Rect.X1, li .i64 a1.Rect.Y1])), (7, some (.cells [lb b3, li .i64 i4, li .i64 i5, li .i64 i6, li .i64 i7, li .i64 ii8, li .i64 i9])), (1000000, some (.cells [lb a0.L.a0.On, li .i64 a0.L.a0.Session, li .i64 a0.L.a0.Start, li .i64 a0.L.a0.Rect.X0, li .i64 a0.L.a0.Rect.Y0, li .i64 a0.L.a0.Rect.X1, li .i64 a0.L.a0.Rect.Y1, lb a0.L.a1.On, li .i64 a0.L.a1.Session, li .i64 a0.L.a1.Start, li .i64 a0.L.a1.Rect.X0, li .i64 a0.L.a1.Rect.Y0, li .i64 a0.L.a1.Rect.X1, li .i64 a0.L.a1.Rect.Y1, lb a0.L.a2.On, li .i64 a0.L.a2.Session, li .i64 a0.L.a2.Start, li .i64 a0.L.a2.Rect.X0, li .i64 a0.L.a2.Rect.Y0, li .i64 a0.L.a2.Rect.X1, li .i64 a0.L.a2.Rect.Y1, lb a0.L.a3.On, li .i64 a0.L.a3.Session, li .i64 a0.L.a3.Start, li .i64 a0.L.a3.Rect.X0, li .i64 a0.L.a3.Rect.Y0, li .i64 a0.L.a3.Rect.X1, li .i64 a0.L.a3.Rect.Y1]))] (F40_j10 n a0 a1 a2 b3 i4 i5 i6 i7 ii8 i9) (QF false pc40_r 1 F40_e) := by
    unfold F40_j10
    refine Sim.seq ?_
    refine Sim.block ?_
    refine Sim.seq ?_
    refine Sim.seq ?_
    refine Sim.region [(0, .one (.ptr 1000000 0)), (2, .one (li .i64 a2)), (4, .one (.ptr 4 0)), (7, .one (.ptr 7 0))] [(4, some (.cells [li .i64 a1.Kind, li .i64 a1.ID, li .i64 a1.Which, li .i64 a1.To, li .i64 a1.At.X, li .i64 a1.At.Y, li .i64 a1.F.a0.N, ls a1.F.a0.Text, li .i64 a1.F.a1.N, ls a1.F.a1.Text, li .i64 a1.F.a2.N, ls a1.F.a2.Text, li .i64 a1.F.a3.N, ls a1.F.a3.Text, li .i64 a1.Value.N, ls a1.Value.Text, li .i64 a1.Client, li .i64 a1.Session, li .i64 a1.Rect.X0, li .i64 a1.Rect.Y0, li .i64 a1.Rect.X1, li .i64 a1.Rect.Y1])), (7, some (.cells [lb b3, li .i64 i4, li .i64 i5, li .i64 i6, li .i64 i7, li .i64 ii8, li .i64 i9])), (1000000, some (.cells [lb a0.L.a0.On, li .i64 a0.L.a0.Session, li .i64 a0.L.a0.Start, li .i64 a0.L.a0.Rect.X0, li .i64 a0.L.a0.Rect.Y0, li .i64 a0.L.a0.Rect.X1, li .i64 a0.L.a0.Rect.Y1, lb a0.L.a1.On, li .i64 a0.L.a1.Session, li .i64 a0.L.a1.Start, li .i64 a0.L.a1.Rect.X0, li .i64 a0.L.a1.Rect.Y0, li .i64 a0.L.a1.Rect.X1, li .i64 a0.L.a1.Rect.Y1, lb a0.L.a2.On, li .i64 a0.L.a2.Session, li .i64 a0.L.a2.Start, li .i64 a0.L.a2.Rect.X0, li .i64 a0.L.a2.Rect.Y0, li .i64 a0.L.a2.Rect.X1, li .i64 a0.L.a2.Rect.Y1, lb a0.L.a3.On, li .i64 a0.L.a3.Session, li .i64 a0.L.a3.Start, li .i64 a0.L.a3.Rect.X0, li .i64 a0.L.a3.Rect.Y0, li .i64 a0.L.a3.Rect.X1, li .i64 a0.L.a3.Rect.Y1]))] (by kernel_rfl) ?_
    refine SimI.run 4 [(30, .one (lb (a1.Kind == 6))), (29, .one (lb (a1.Kind == 6))), (28, .one (li .i64 a1.Kind)), (27, .one (.ptr 4 0))] [] (by kernel_rfl) ?_
    refine SimI.split 30 (a1.Kind == 6) (by kernel_rfl) ?_ ?_
    · refine SimI.run 7 [(26, .one (lb (decide (a1.Session ≤ i4)))), (36, .one (lb (decide (a1.Session ≤ i4)))), (35, .one (lb (decide (a1.Session ≤ i4)))), (34, .one (li .i64 i4)), (33, .one (.ptr 7 1)), (32, .one (li .i64 a1.Session)), (31, .one (.ptr 4 17))] [] (by kernel_rfl) ?_
      refine SimI.done (by kernel_rfl) ?_
      refine SimE.thenN ?_
      refine Sim.cond (decide (a1.Session ≤ i4)) (by kernel_rfl) ?_ ?_
      · refine Sim.skip ?_
        refine SimE.thenN ?_
        refine Sim.cond (decide (a1.Session ≤ i4)) (by kernel_rfl) ?_ ?_
        · refine Sim.seq ?_
          refine Sim.region0 ?_
          refine SimI.run 1 [(6, .one (li .i64 20))] [] (by kernel_rfl) ?_
          refine SimI.done (by kernel_rfl) ?_
          refine SimE.thenN ?_
          refine Sim.ret ?_
          refine SimE.blockR ?_
          refine SimE.thenR ?_
          exact SimE.fin (by kernel_rfl)
        · refine Sim.pre (ts := [0, 2, 4, 7]) (os := [4, 7, 1000000]) (ow := []) [(0, .one (.ptr 1000000 0)), (2, .one (li .i64 a2)), (4, .one (.ptr 4 0)), (7, .one (.ptr 7 0))] [(4, some (.cells [li .i64 a1.Kind, li .i64 a1.ID, li .i64 a1.Which, li .i64 a1.To, li .i64 a1.At.X, li .i64 a1.At.Y, li .i64 a1.F.a0.N, ls a1.F.a0.Text, li .i64 a1.F.a1.N, ls a1.F.a1.Text, li .i64 a1.F.a2.N, ls a1.F.a2.Text, li .i64 a1.F.a3.N, ls a1.F.a3.Text, li .i64 a1.Value.N, ls a1.Value.Text, li .i64 a1.Client, li .i64 a1.Session, li .i64 a1.Rect.X0, li .i64 a1.Rect.Y0, li .i64 a1.Rect.X1, li .i64 a1.Rect.Y1])), (7, some (.cells [lb b3, li .i64 i4, li .i64 i5, li .i64 i6, li .i64 i7, li .i64 ii8, li .i64 i9])), (1000000, some (.cells [lb a0.L.a0.On, li .i64 a0.L.a0.Session, li .i64 a0.L.a0.Start, li .i64 a0.L.a0.Rect.X0, li .i64 a0.L.a0.Rect.Y0, li .i64 a0.L.a0.Rect.X1, li .i64 a0.L.a0.Rect.Y1, lb a0.L.a1.On, li .i64 a0.L.a1.Session, li .i64 a0.L.a1.Start, li .i64 a0.L.a1.Rect.X0, li .i64 a0.L.a1.Rect.Y0, li .i64 a0.L.a1.Rect.X1, li .i64 a0.L.a1.Rect.Y1, lb a0.L.a2.On, li .i64 a0.L.a2.Session, li .i64 a0.L.a2.Start, li .i64 a0.L.a2.Rect.X0, li .i64 a0.L.a2.Rect.Y0, li .i64 a0.L.a2.Rect.X1, li .i64 a0.L.a2.Rect.Y1, lb a0.L.a3.On, li .i64 a0.L.a3.Session, li .i64 a0.L.a3.Start, li .i64 a0.L.a3.Rect.X0, li .i64 a0.L.a3.Rect.Y0, li .i64 a0.L.a3.Rect.X1, li .i64 a0.L.a3.Rect.Y1]))] (by kernel_rfl) (by kernel_rfl) (by kernel_rfl) ?_
          exact F40_j12_ok n a0 a1 a2 b3 i4 i5 i6 i7 ii8 i9
      · refine Sim.pre (ts := [0, 2, 4, 7]) (os := [4, 7, 1000000]) (ow := []) [(0, .one (.ptr 1000000 0)), (2, .one (li .i64 a2)), (4, .one (.ptr 4 0)), (7, .one (.ptr 7 0))] [(4, some (.cells [li .i64 a1.Kind, li .i64 a1.ID, li .i64 a1.Which, li .i64 a1.To, li .i64 a1.At.X, li .i64 a1.At.Y, li .i64 a1.F.a0.N, ls a1.F.a0.Text, li .i64 a1.F.a1.N, ls a1.F.a1.Text, li .i64 a1.F.a2.N, ls a1.F.a2.Text, li .i64 a1.F.a3.N, ls a1.F.a3.Text, li .i64 a1.Value.N, ls a1.Value.Text, li .i64 a1.Client, li .i64 a1.Session, li .i64 a1.Rect.X0, li .i64 a1.Rect.Y0, li .i64 a1.Rect.X1, li .i64 a1.Rect.Y1])), (7, some (.cells [lb b3, li .i64 i4, li .i64 i5, li .i64 i6, li .i64 i7, li .i64 ii8, li .i64 i9])), (1000000, some (.cells [lb a0.L.a0.On, li .i64 a0.L.a0.Session, li .i64 a0.L.a0.Start, li .i64 a0.L.a0.Rect.X0, li .i64 a0.L.a0.Rect.Y0, li .i64 a0.L.a0.Rect.X1, li .i64 a0.L.a0.Rect.Y1, lb a0.L.a1.On, li .i64 a0.L.a1.Session, li .i64 a0.L.a1.Start, li .i64 a0.L.a1.Rect.X0, li .i64 a0.L.a1.Rect.Y0, li .i64 a0.L.a1.Rect.X1, li .i64 a0.L.a1.Rect.Y1, lb a0.L.a2.On, li .i64 a0.L.a2.Session, li .i64 a0.L.a2.Start, li .i64 a0.L.a2.Rect.X0, li .i64 a0.L.a2.Rect.Y0, li .i64 a0.L.a2.Rect.X1, li .i64 a0.L.a2.Rect.Y1, lb a0.L.a3.On, li .i64 a0.L.a3.Session, li .i64 a0.L.a3.Start, li .i64 a0.L.a3.Rect.X0, li .i64 a0.L.a3.Rect.Y0, li .i64 a0.L.a3.Rect.X1, li .i64 a0.L.a3.Rect.Y1]))] (by kernel_rfl) (by kernel_rfl) (by kernel_rfl) ?_
        exact F40_j11_ok n a0 a1 a2 b3 i4 i5 i6 i7 ii8 i9
    · refine SimI.run 7 [(26, .one (lb false)), (36, .one (lb false)), (35, .tup []), (34, .tup []), (33, .tup []), (32, .tup []), (31, .tup [])] [] (by kernel_rfl) ?_
      refine SimI.done (by kernel_rfl) ?_
      refine SimE.thenN ?_
      refine Sim.condF (by kernel_rfl) ?_
      refine Sim.pre (ts := [0, 2, 4, 7]) (os := [4, 7, 1000000]) (ow := []) [(0, .one (.ptr 1000000 0)), (2, .one (li .i64 a2)), (4, .one (.ptr 4 0)), (7, .one (.ptr 7 0))] [(4, some (.cells [li .i64 a1.Kind, li .i64 a1.ID, li .i64 a1.Which, li .i64 a1.To, li .i64 a1.At.X, li .i64 a1.At.Y, li .i64 a1.F.a0.N, ls a1.F.a0.Text, li .i64 a1.F.a1.N, ls a1.F.a1.Text, li .i64 a1.F.a2.N, ls a1.F.a2.Text, li .i64 a1.F.a3.N, ls a1.F.a3.Text, li .i64 a1.Value.N, ls a1.Value.Text, li .i64 a1.Client, li .i64 a1.Session, li .i64 a1.Rect.X0, li .i64 a1.Rect.Y0, li .i64 a1.Rect.X1, li .i64 a1.Rect.Y1])), (7, some (.cells [lb b3, li .i64 i4, li .i64 i5, li .i64 i6, li .i64 i7, li .i64 ii8, li .i64 i9])), (1000000, some (.cells [lb a0.L.a0.On, li .i64 a0.L.a0.Session, li .i64 a0.L.a0.Start, li .i64 a0.L.a0.Rect.X0, li .i64 a0.L.a0.Rect.Y0, li .i64 a0.L.a0.Rect.X1, li .i64 a0.L.a0.Rect.Y1, lb a0.L.a1.On, li .i64 a0.L.a1.Session, li .i64 a0.L.a1.Start, li .i64 a0.L.a1.Rect.X0, li .i64 a0.L.a1.Rect.Y0, li .i64 a0.L.a1.Rect.X1, li .i64 a0.L.a1.Rect.Y1, lb a0.L.a2.On, li .i64 a0.L.a2.Session, li .i64 a0.L.a2.Start, li .i64 a0.L.a2.Rect.X0, li .i64 a0.L.a2.Rect.Y0, li .i64 a0.L.a2.Rect.X1, li .i64 a0.L.a2.Rect.Y1, lb a0.L.a3.On, li .i64 a0.L.a3.Session, li .i64 a0.L.a3.Start, li .i64 a0.L.a3.Rect.X0, li .i64 a0.L.a3.Rect.Y0, li .i64 a0.L.a3.Rect.X1, li .i64 a0.L.a3.Rect.Y1]))] (by kernel_rfl) (by kernel_rfl) (by kernel_rfl) ?_
      exact F40_j11_ok n a0 a1 a2 b3 i4 i5 i6 i7 ii8 i9

def F40 (n : Nat) (a0 : Book_vedetteref13) (a1 : Command) (a2 : Int) : Option (Int × Book_vedetteref13) :=
  (F65 n a1).bind fun (r1 : Bool) =>
  if !(r1) then
    some (11, a0)
  else
    (F66 n a1).bind fun (r2 : Bool) =>
    if !(r2) then
      some (11, a0)
    else
      if a1.Client = 0 then
        F40_j10 n a0 a1 a2 a0.L.a0.On a0.L.a0.Session a0.L.a0.Start a0.L.a0.Rect.X0 a0.L.a0.Rect.Y0 a0.L.a0.Rect.X1 a0.L.a0.Rect.Y1
      else
        if a1.Client = 1 then
          F40_j10 n a0 a1 a2 a0.L.a1.On a0.L.a1.Session a0.L.a1.Start a0.L.a1.Rect.X0 a0.L.a1.Rect.Y0 a0.L.a1.Rect.X1 a0.L.a1.Rect.Y1
        else
          if a1.Client = 2 then
            F40_j10 n a0 a1 a2 a0.L.a2.On a0.L.a2.Session a0.L.a2.Start a0.L.a2.Rect.X0 a0.L.a2.Rect.Y0 a0.L.a2.Rect.X1 a0.L.a2.Rect.Y1
          else
            if a1.Client = 3 then
              F40_j10 n a0 a1 a2 a0.L.a3.On a0.L.a3.Session a0.L.a3.Start a0.L.a3.Rect.X0 a0.L.a3.Rect.Y0 a0.L.a3.Rect.X1 a0.L.a3.Rect.Y1
            else
              none
theorem F40_ok (n : Nat) (a0 : Book_vedetteref13) (a1 : Command) (a2 : Int) : ∀ r, F40 n a0 a1 a2 = some r → D 40 [.one (.ptr 1000000 0), .agg [li .i64 a1.Kind, li .i64 a1.ID, li .i64 a1.Which, li .i64 a1.To, li .i64 a1.At.X, li .i64 a1.At.Y, li .i64 a1.F.a0.N, ls a1.F.a0.Text, li .i64 a1.F.a1.N, ls a1.F.a1.Text, li .i64 a1.F.a2.N, ls a1.F.a2.Text, li .i64 a1.F.a3.N, ls a1.F.a3.Text, li .i64 a1.Value.N, ls a1.Value.Text, li .i64 a1.Client, li .i64 a1.Session, li .i64 a1.Rect.X0, li .i64 a1.Rect.Y0, li .i64 a1.Rect.X1, li .i64 a1.Rect.Y1], .one (li .i64 a2)] [.cells [lb a0.L.a0.On, li .i64 a0.L.a0.Session, li .i64 a0.L.a0.Start, li .i64 a0.L.a0.Rect.X0, li .i64 a0.L.a0.Rect.Y0, li .i64 a0.L.a0.Rect.X1, li .i64 a0.L.a0.Rect.Y1, lb a0.L.a1.On, li .i64 a0.L.a1.Session, li .i64 a0.L.a1.Start, li .i64 a0.L.a1.Rect.X0, li .i64 a0.L.a1.Rect.Y0, li .i64 a0.L.a1.Rect.X1, li .i64 a0.L.a1.Rect.Y1, lb a0.L.a2.On, li .i64 a0.L.a2.Session, li .i64 a0.L.a2.Start, li .i64 a0.L.a2.Rect.X0, li .i64 a0.L.a2.Rect.Y0, li .i64 a0.L.a2.Rect.X1, li .i64 a0.L.a2.Rect.Y1, lb a0.L.a3.On, li .i64 a0.L.a3.Session, li .i64 a0.L.a3.Start, li .i64 a0.L.a3.Rect.X0, li .i64 a0.L.a3.Rect.Y0, li .i64 a0.L.a3.Rect.X1, li .i64 a0.L.a3.Rect.Y1]] = some (F40_e r) := by
  refine fn_to (D := D) (n := n + 8) (nt := 78) (rs := pc40_r) (c := pc40_c38) (L := [(0, .one (.ptr 1000000 0)), (1, .agg [li .i64 a1.Kind, li .i64 a1.ID, li .i64 a1.Which, li .i64 a1.To, li .i64 a1.At.X, li .i64 a1.At.Y, li .i64 a1.F.a0.N, ls a1.F.a0.Text, li .i64 a1.F.a1.N, ls a1.F.a1.Text, li .i64 a1.F.a2.N, ls a1.F.a2.Text, li .i64 a1.F.a3.N, ls a1.F.a3.Text, li .i64 a1.Value.N, ls a1.Value.Text, li .i64 a1.Client, li .i64 a1.Session, li .i64 a1.Rect.X0, li .i64 a1.Rect.Y0, li .i64 a1.Rect.X1, li .i64 a1.Rect.Y1]), (2, .one (li .i64 a2))]) (M := [(1000000, some (.cells [lb a0.L.a0.On, li .i64 a0.L.a0.Session, li .i64 a0.L.a0.Start, li .i64 a0.L.a0.Rect.X0, li .i64 a0.L.a0.Rect.Y0, li .i64 a0.L.a0.Rect.X1, li .i64 a0.L.a0.Rect.Y1, lb a0.L.a1.On, li .i64 a0.L.a1.Session, li .i64 a0.L.a1.Start, li .i64 a0.L.a1.Rect.X0, li .i64 a0.L.a1.Rect.Y0, li .i64 a0.L.a1.Rect.X1, li .i64 a0.L.a1.Rect.Y1, lb a0.L.a2.On, li .i64 a0.L.a2.Session, li .i64 a0.L.a2.Start, li .i64 a0.L.a2.Rect.X0, li .i64 a0.L.a2.Rect.Y0, li .i64 a0.L.a2.Rect.X1, li .i64 a0.L.a2.Rect.Y1, lb a0.L.a3.On, li .i64 a0.L.a3.Session, li .i64 a0.L.a3.Start, li .i64 a0.L.a3.Rect.X0, li .i64 a0.L.a3.Rect.Y0, li .i64 a0.L.a3.Rect.X1, li .i64 a0.L.a3.Rect.Y1]))]) (k := 1) rfl rfl rfl rfl rfl rfl rfl ?_
  unfold F40
  refine Sim.seq ?_
  refine Sim.region0 ?_
  refine SimI.run 2 [(6, .one (li .i64 0)), (4, .one (.ptr 4 0))] [(4, some (.cells [li .i64 a1.Kind, li .i64 a1.ID, li .i64 a1.Which, li .i64 a1.To, li .i64 a1.At.X, li .i64 a1.At.Y, li .i64 a1.F.a0.N, ls a1.F.a0.Text, li .i64 a1.F.a1.N, ls a1.F.a1.Text, li .i64 a1.F.a2.N, ls a1.F.a2.Text, li .i64 a1.F.a3.N, ls a1.F.a3.Text, li .i64 a1.Value.N, ls a1.Value.Text, li .i64 a1.Client, li .i64 a1.Session, li .i64 a1.Rect.X0, li .i64 a1.Rect.Y0, li .i64 a1.Rect.X1, li .i64 a1.Rect.Y1]))] (by kernel_rfl) ?_
  refine SimI.done (by kernel_rfl) ?_
  refine SimE.thenN ?_
  refine Sim.seq ?_
  refine Sim.seq ?_
  refine Sim.region0 ?_
  refine SimI.run 1 [(8, .agg [li .i64 a1.Kind, li .i64 a1.ID, li .i64 a1.Which, li .i64 a1.To, li .i64 a1.At.X, li .i64 a1.At.Y, li .i64 a1.F.a0.N, ls a1.F.a0.Text, li .i64 a1.F.a1.N, ls a1.F.a1.Text, li .i64 a1.F.a2.N, ls a1.F.a2.Text, li .i64 a1.F.a3.N, ls a1.F.a3.Text, li .i64 a1.Value.N, ls a1.Value.Text, li .i64 a1.Client, li .i64 a1.Session, li .i64 a1.Rect.X0, li .i64 a1.Rect.Y0, li .i64 a1.Rect.X1, li .i64 a1.Rect.Y1])] [] (by kernel_rfl) ?_
  refine SimI.bind (og := F65 n a1) { dst := some 9, op := POp.call true [[]] 65 [Operand.tmp 8], guard := none, hints := [] } (fun r1 => [(9, .one (lb r1))]) (fun r1 => []) (by kernel_rfl) (fun r1 hr => pOp_eff (by kernel_rfl) (by kernel_rfl) (eff_call (ARGS := [.agg [li .i64 a1.Kind, li .i64 a1.ID, li .i64 a1.Which, li .i64 a1.To, li .i64 a1.At.X, li .i64 a1.At.Y, li .i64 a1.F.a0.N, ls a1.F.a0.Text, li .i64 a1.F.a1.N, ls a1.F.a1.Text, li .i64 a1.F.a2.N, ls a1.F.a2.Text, li .i64 a1.F.a3.N, ls a1.F.a3.Text, li .i64 a1.Value.N, ls a1.Value.Text, li .i64 a1.Client, li .i64 a1.Session, li .i64 a1.Rect.X0, li .i64 a1.Rect.Y0, li .i64 a1.Rect.X1, li .i64 a1.Rect.Y1]]) (by kernel_rfl) (args_clean (by kernel_rfl) args_nil) (F65_ok n a1 r1 hr) (by kernel_rfl))) (fun r1 => ?_)
  refine SimI.run 2 [(11, .one (lb (!(r1)))), (10, .one (lb (!(r1))))] [] (by kernel_rfl) ?_
  refine SimI.split 11 (!(r1)) (by kernel_rfl) ?_ ?_
  · refine SimI.run 4 [(15, .one (lb true)), (14, .tup []), (13, .tup []), (12, .tup [])] [] (by kernel_rfl) ?_
    refine SimI.done (by kernel_rfl) ?_
    refine SimE.thenN ?_
    refine Sim.condT (by kernel_rfl) ?_
    refine Sim.seq ?_
    refine Sim.region0 ?_
    refine SimI.run 1 [(6, .one (li .i64 11))] [] (by kernel_rfl) ?_
    refine SimI.done (by kernel_rfl) ?_
    refine SimE.thenN ?_
    refine Sim.ret ?_
    refine SimE.thenR ?_
    exact SimE.fin (by kernel_rfl)
  · refine SimI.run 1 [(12, .agg [li .i64 a1.Kind, li .i64 a1.ID, li .i64 a1.Which, li .i64 a1.To, li .i64 a1.At.X, li .i64 a1.At.Y, li .i64 a1.F.a0.N, ls a1.F.a0.Text, li .i64 a1.F.a1.N, ls a1.F.a1.Text, li .i64 a1.F.a2.N, ls a1.F.a2.Text, li .i64 a1.F.a3.N, ls a1.F.a3.Text, li .i64 a1.Value.N, ls a1.Value.Text, li .i64 a1.Client, li .i64 a1.Session, li .i64 a1.Rect.X0, li .i64 a1.Rect.Y0, li .i64 a1.Rect.X1, li .i64 a1.Rect.Y1])] [] (by kernel_rfl) ?_
    refine SimI.bind (og := F66 n a1) { dst := some 13, op := POp.call true [[]] 66 [Operand.tmp 12], guard := some (11, false), hints := [] } (fun r2 => [(13, .one (lb r2))]) (fun r2 => []) (by kernel_rfl) (fun r2 hr => pOp_eff (by kernel_rfl) (by kernel_rfl) (eff_call (ARGS := [.agg [li .i64 a1.Kind, li .i64 a1.ID, li .i64 a1.Which, li .i64 a1.To, li .i64 a1.At.X, li .i64 a1.At.Y, li .i64 a1.F.a0.N, ls a1.F.a0.Text, li .i64 a1.F.a1.N, ls a1.F.a1.Text, li .i64 a1.F.a2.N, ls a1.F.a2.Text, li .i64 a1.F.a3.N, ls a1.F.a3.Text, li .i64 a1.Value.N, ls a1.Value.Text, li .i64 a1.Client, li .i64 a1.Session, li .i64 a1.Rect.X0, li .i64 a1.Rect.Y0, li .i64 a1.Rect.X1, li .i64 a1.Rect.Y1]]) (by kernel_rfl) (args_clean (by kernel_rfl) args_nil) (F66_ok n a1 r2 hr) (by kernel_rfl))) (fun r2 => ?_)
    refine SimI.run 2 [(15, .one (lb (!(r2)))), (14, .one (lb (!(r2))))] [] (by kernel_rfl) ?_
    refine SimI.done (by kernel_rfl) ?_
    refine SimE.thenN ?_
    refine Sim.cond (!(r2)) (by kernel_rfl) ?_ ?_
    · refine Sim.seq ?_
      refine Sim.region0 ?_
      refine SimI.run 1 [(6, .one (li .i64 11))] [] (by kernel_rfl) ?_
      refine SimI.done (by kernel_rfl) ?_
      refine SimE.thenN ?_
      refine Sim.ret ?_
      refine SimE.thenR ?_
      exact SimE.fin (by kernel_rfl)
    · refine Sim.skip ?_
      refine SimE.thenN ?_
      refine Sim.seq ?_
      refine Sim.region0 ?_
      refine SimI.run 5 [(20, .one (.ptr 1000000 0)), (19, .one (.ptr 1000000 0)), (18, .one (li .i64 a1.Client)), (17, .one (.ptr 4 16)), (16, .one (.ptr 1000000 0))] [] (by kernel_rfl) ?_
      refine SimI.casei 18 .i64 a1.Client 0 (by kernel_rfl) ?_ ?_
      · refine SimI.run 4 [(7, .one (.ptr 7 0)), (22, .agg [lb a0.L.a0.On, li .i64 a0.L.a0.Session, li .i64 a0.L.a0.Start, li .i64 a0.L.a0.Rect.X0, li .i64 a0.L.a0.Rect.Y0, li .i64 a0.L.a0.Rect.X1, li .i64 a0.L.a0.Rect.Y1]), (21, .one (.ptr 1000000 0))] [(7, some (.cells [lb a0.L.a0.On, li .i64 a0.L.a0.Session, li .i64 a0.L.a0.Start, li .i64 a0.L.a0.Rect.X0, li .i64 a0.L.a0.Rect.Y0, li .i64 a0.L.a0.Rect.X1, li .i64 a0.L.a0.Rect.Y1])), (7, some (.cells [lb false, li .i64 0, li .i64 0, li .i64 0, li .i64 0, li .i64 0, li .i64 0]))] (by kernel_rfl) ?_
        refine SimI.done (by kernel_rfl) ?_
        refine SimE.thenN ?_
        refine Sim.pre (ts := [0, 2, 4, 7]) (os := [4, 7, 1000000]) (ow := []) [(0, .one (.ptr 1000000 0)), (2, .one (li .i64 a2)), (4, .one (.ptr 4 0)), (7, .one (.ptr 7 0))] [(4, some (.cells [li .i64 a1.Kind, li .i64 a1.ID, li .i64 a1.Which, li .i64 a1.To, li .i64 a1.At.X, li .i64 a1.At.Y, li .i64 a1.F.a0.N, ls a1.F.a0.Text, li .i64 a1.F.a1.N, ls a1.F.a1.Text, li .i64 a1.F.a2.N, ls a1.F.a2.Text, li .i64 a1.F.a3.N, ls a1.F.a3.Text, li .i64 a1.Value.N, ls a1.Value.Text, li .i64 a1.Client, li .i64 a1.Session, li .i64 a1.Rect.X0, li .i64 a1.Rect.Y0, li .i64 a1.Rect.X1, li .i64 a1.Rect.Y1])), (7, some (.cells [lb a0.L.a0.On, li .i64 a0.L.a0.Session, li .i64 a0.L.a0.Start, li .i64 a0.L.a0.Rect.X0, li .i64 a0.L.a0.Rect.Y0, li .i64 a0.L.a0.Rect.X1, li .i64 a0.L.a0.Rect.Y1])), (1000000, some (.cells [lb a0.L.a0.On, li .i64 a0.L.a0.Session, li .i64 a0.L.a0.Start, li .i64 a0.L.a0.Rect.X0, li .i64 a0.L.a0.Rect.Y0, li .i64 a0.L.a0.Rect.X1, li .i64 a0.L.a0.Rect.Y1, lb a0.L.a1.On, li .i64 a0.L.a1.Session, li .i64 a0.L.a1.Start, li .i64 a0.L.a1.Rect.X0, li .i64 a0.L.a1.Rect.Y0, li .i64 a0.L.a1.Rect.X1, li .i64 a0.L.a1.Rect.Y1, lb a0.L.a2.On, li .i64 a0.L.a2.Session, li .i64 a0.L.a2.Start, li .i64 a0.L.a2.Rect.X0, li .i64 a0.L.a2.Rect.Y0, li .i64 a0.L.a2.Rect.X1, li .i64 a0.L.a2.Rect.Y1, lb a0.L.a3.On, li .i64 a0.L.a3.Session, li .i64 a0.L.a3.Start, li .i64 a0.L.a3.Rect.X0, li .i64 a0.L.a3.Rect.Y0, li .i64 a0.L.a3.Rect.X1, li .i64 a0.L.a3.Rect.Y1]))] (by kernel_rfl) (by kernel_rfl) (by kernel_rfl) ?_
        exact F40_j10_ok n a0 a1 a2 a0.L.a0.On a0.L.a0.Session a0.L.a0.Start a0.L.a0.Rect.X0 a0.L.a0.Rect.Y0 a0.L.a0.Rect.X1 a0.L.a0.Rect.Y1
      · refine SimI.casei 18 .i64 a1.Client 1 (by kernel_rfl) ?_ ?_
        · refine SimI.run 4 [(7, .one (.ptr 7 0)), (22, .agg [lb a0.L.a1.On, li .i64 a0.L.a1.Session, li .i64 a0.L.a1.Start, li .i64 a0.L.a1.Rect.X0, li .i64 a0.L.a1.Rect.Y0, li .i64 a0.L.a1.Rect.X1, li .i64 a0.L.a1.Rect.Y1]), (21, .one (.ptr 1000000 7))] [(7, some (.cells [lb a0.L.a1.On, li .i64 a0.L.a1.Session, li .i64 a0.L.a1.Start, li .i64 a0.L.a1.Rect.X0, li .i64 a0.L.a1.Rect.Y0, li .i64 a0.L.a1.Rect.X1, li .i64 a0.L.a1.Rect.Y1])), (7, some (.cells [lb false, li .i64 0, li .i64 0, li .i64 0, li .i64 0, li .i64 0, li .i64 0]))] (by kernel_rfl) ?_
          refine SimI.done (by kernel_rfl) ?_
          refine SimE.thenN ?_
          refine Sim.pre (ts := [0, 2, 4, 7]) (os := [4, 7, 1000000]) (ow := []) [(0, .one (.ptr 1000000 0)), (2, .one (li .i64 a2)), (4, .one (.ptr 4 0)), (7, .one (.ptr 7 0))] [(4, some (.cells [li .i64 a1.Kind, li .i64 a1.ID, li .i64 a1.Which, li .i64 a1.To, li .i64 a1.At.X, li .i64 a1.At.Y, li .i64 a1.F.a0.N, ls a1.F.a0.Text, li .i64 a1.F.a1.N, ls a1.F.a1.Text, li .i64 a1.F.a2.N, ls a1.F.a2.Text, li .i64 a1.F.a3.N, ls a1.F.a3.Text, li .i64 a1.Value.N, ls a1.Value.Text, li .i64 a1.Client, li .i64 a1.Session, li .i64 a1.Rect.X0, li .i64 a1.Rect.Y0, li .i64 a1.Rect.X1, li .i64 a1.Rect.Y1])), (7, some (.cells [lb a0.L.a1.On, li .i64 a0.L.a1.Session, li .i64 a0.L.a1.Start, li .i64 a0.L.a1.Rect.X0, li .i64 a0.L.a1.Rect.Y0, li .i64 a0.L.a1.Rect.X1, li .i64 a0.L.a1.Rect.Y1])), (1000000, some (.cells [lb a0.L.a0.On, li .i64 a0.L.a0.Session, li .i64 a0.L.a0.Start, li .i64 a0.L.a0.Rect.X0, li .i64 a0.L.a0.Rect.Y0, li .i64 a0.L.a0.Rect.X1, li .i64 a0.L.a0.Rect.Y1, lb a0.L.a1.On, li .i64 a0.L.a1.Session, li .i64 a0.L.a1.Start, li .i64 a0.L.a1.Rect.X0, li .i64 a0.L.a1.Rect.Y0, li .i64 a0.L.a1.Rect.X1, li .i64 a0.L.a1.Rect.Y1, lb a0.L.a2.On, li .i64 a0.L.a2.Session, li .i64 a0.L.a2.Start, li .i64 a0.L.a2.Rect.X0, li .i64 a0.L.a2.Rect.Y0, li .i64 a0.L.a2.Rect.X1, li .i64 a0.L.a2.Rect.Y1, lb a0.L.a3.On, li .i64 a0.L.a3.Session, li .i64 a0.L.a3.Start, li .i64 a0.L.a3.Rect.X0, li .i64 a0.L.a3.Rect.Y0, li .i64 a0.L.a3.Rect.X1, li .i64 a0.L.a3.Rect.Y1]))] (by kernel_rfl) (by kernel_rfl) (by kernel_rfl) ?_
          exact F40_j10_ok n a0 a1 a2 a0.L.a1.On a0.L.a1.Session a0.L.a1.Start a0.L.a1.Rect.X0 a0.L.a1.Rect.Y0 a0.L.a1.Rect.X1 a0.L.a1.Rect.Y1
        · refine SimI.casei 18 .i64 a1.Client 2 (by kernel_rfl) ?_ ?_
          · refine SimI.run 4 [(7, .one (.ptr 7 0)), (22, .agg [lb a0.L.a2.On, li .i64 a0.L.a2.Session, li .i64 a0.L.a2.Start, li .i64 a0.L.a2.Rect.X0, li .i64 a0.L.a2.Rect.Y0, li .i64 a0.L.a2.Rect.X1, li .i64 a0.L.a2.Rect.Y1]), (21, .one (.ptr 1000000 14))] [(7, some (.cells [lb a0.L.a2.On, li .i64 a0.L.a2.Session, li .i64 a0.L.a2.Start, li .i64 a0.L.a2.Rect.X0, li .i64 a0.L.a2.Rect.Y0, li .i64 a0.L.a2.Rect.X1, li .i64 a0.L.a2.Rect.Y1])), (7, some (.cells [lb false, li .i64 0, li .i64 0, li .i64 0, li .i64 0, li .i64 0, li .i64 0]))] (by kernel_rfl) ?_
            refine SimI.done (by kernel_rfl) ?_
            refine SimE.thenN ?_
            refine Sim.pre (ts := [0, 2, 4, 7]) (os := [4, 7, 1000000]) (ow := []) [(0, .one (.ptr 1000000 0)), (2, .one (li .i64 a2)), (4, .one (.ptr 4 0)), (7, .one (.ptr 7 0))] [(4, some (.cells [li .i64 a1.Kind, li .i64 a1.ID, li .i64 a1.Which, li .i64 a1.To, li .i64 a1.At.X, li .i64 a1.At.Y, li .i64 a1.F.a0.N, ls a1.F.a0.Text, li .i64 a1.F.a1.N, ls a1.F.a1.Text, li .i64 a1.F.a2.N, ls a1.F.a2.Text, li .i64 a1.F.a3.N, ls a1.F.a3.Text, li .i64 a1.Value.N, ls a1.Value.Text, li .i64 a1.Client, li .i64 a1.Session, li .i64 a1.Rect.X0, li .i64 a1.Rect.Y0, li .i64 a1.Rect.X1, li .i64 a1.Rect.Y1])), (7, some (.cells [lb a0.L.a2.On, li .i64 a0.L.a2.Session, li .i64 a0.L.a2.Start, li .i64 a0.L.a2.Rect.X0, li .i64 a0.L.a2.Rect.Y0, li .i64 a0.L.a2.Rect.X1, li .i64 a0.L.a2.Rect.Y1])), (1000000, some (.cells [lb a0.L.a0.On, li .i64 a0.L.a0.Session, li .i64 a0.L.a0.Start, li .i64 a0.L.a0.Rect.X0, li .i64 a0.L.a0.Rect.Y0, li .i64 a0.L.a0.Rect.X1, li .i64 a0.L.a0.Rect.Y1, lb a0.L.a1.On, li .i64 a0.L.a1.Session, li .i64 a0.L.a1.Start, li .i64 a0.L.a1.Rect.X0, li .i64 a0.L.a1.Rect.Y0, li .i64 a0.L.a1.Rect.X1, li .i64 a0.L.a1.Rect.Y1, lb a0.L.a2.On, li .i64 a0.L.a2.Session, li .i64 a0.L.a2.Start, li .i64 a0.L.a2.Rect.X0, li .i64 a0.L.a2.Rect.Y0, li .i64 a0.L.a2.Rect.X1, li .i64 a0.L.a2.Rect.Y1, lb a0.L.a3.On, li .i64 a0.L.a3.Session, li .i64 a0.L.a3.Start, li .i64 a0.L.a3.Rect.X0, li .i64 a0.L.a3.Rect.Y0, li .i64 a0.L.a3.Rect.X1, li .i64 a0.L.a3.Rect.Y1]))] (by kernel_rfl) (by kernel_rfl) (by kernel_rfl) ?_
            exact F40_j10_ok n a0 a1 a2 a0.L.a2.On a0.L.a2.Session a0.L.a2.Start a0.L.a2.Rect.X0 a0.L.a2.Rect.Y0 a0.L.a2.Rect.X1 a0.L.a2.Rect.Y1
          · refine SimI.casei 18 .i64 a1.Client 3 (by kernel_rfl) ?_ ?_
            · refine SimI.run 4 [(7, .one (.ptr 7 0)), (22, .agg [lb a0.L.a3.On, li .i64 a0.L.a3.Session, li .i64 a0.L.a3.Start, li .i64 a0.L.a3.Rect.X0, li .i64 a0.L.a3.Rect.Y0, li .i64 a0.L.a3.Rect.X1, li .i64 a0.L.a3.Rect.Y1]), (21, .one (.ptr 1000000 21))] [(7, some (.cells [lb a0.L.a3.On, li .i64 a0.L.a3.Session, li .i64 a0.L.a3.Start, li .i64 a0.L.a3.Rect.X0, li .i64 a0.L.a3.Rect.Y0, li .i64 a0.L.a3.Rect.X1, li .i64 a0.L.a3.Rect.Y1])), (7, some (.cells [lb false, li .i64 0, li .i64 0, li .i64 0, li .i64 0, li .i64 0, li .i64 0]))] (by kernel_rfl) ?_
              refine SimI.done (by kernel_rfl) ?_
              refine SimE.thenN ?_
              refine Sim.pre (ts := [0, 2, 4, 7]) (os := [4, 7, 1000000]) (ow := []) [(0, .one (.ptr 1000000 0)), (2, .one (li .i64 a2)), (4, .one (.ptr 4 0)), (7, .one (.ptr 7 0))] [(4, some (.cells [li .i64 a1.Kind, li .i64 a1.ID, li .i64 a1.Which, li .i64 a1.To, li .i64 a1.At.X, li .i64 a1.At.Y, li .i64 a1.F.a0.N, ls a1.F.a0.Text, li .i64 a1.F.a1.N, ls a1.F.a1.Text, li .i64 a1.F.a2.N, ls a1.F.a2.Text, li .i64 a1.F.a3.N, ls a1.F.a3.Text, li .i64 a1.Value.N, ls a1.Value.Text, li .i64 a1.Client, li .i64 a1.Session, li .i64 a1.Rect.X0, li .i64 a1.Rect.Y0, li .i64 a1.Rect.X1, li .i64 a1.Rect.Y1])), (7, some (.cells [lb a0.L.a3.On, li .i64 a0.L.a3.Session, li .i64 a0.L.a3.Start, li .i64 a0.L.a3.Rect.X0, li .i64 a0.L.a3.Rect.Y0, li .i64 a0.L.a3.Rect.X1, li .i64 a0.L.a3.Rect.Y1])), (1000000, some (.cells [lb a0.L.a0.On, li .i64 a0.L.a0.Session, li .i64 a0.L.a0.Start, li .i64 a0.L.a0.Rect.X0, li .i64 a0.L.a0.Rect.Y0, li .i64 a0.L.a0.Rect.X1, li .i64 a0.L.a0.Rect.Y1, lb a0.L.a1.On, li .i64 a0.L.a1.Session, li .i64 a0.L.a1.Start, li .i64 a0.L.a1.Rect.X0, li .i64 a0.L.a1.Rect.Y0, li .i64 a0.L.a1.Rect.X1, li .i64 a0.L.a1.Rect.Y1, lb a0.L.a2.On, li .i64 a0.L.a2.Session, li .i64 a0.L.a2.Start, li .i64 a0.L.a2.Rect.X0, li .i64 a0.L.a2.Rect.Y0, li .i64 a0.L.a2.Rect.X1, li .i64 a0.L.a2.Rect.Y1, lb a0.L.a3.On, li .i64 a0.L.a3.Session, li .i64 a0.L.a3.Start, li .i64 a0.L.a3.Rect.X0, li .i64 a0.L.a3.Rect.Y0, li .i64 a0.L.a3.Rect.X1, li .i64 a0.L.a3.Rect.Y1]))] (by kernel_rfl) (by kernel_rfl) (by kernel_rfl) ?_
              exact F40_j10_ok n a0 a1 a2 a0.L.a3.On a0.L.a3.Session a0.L.a3.Start a0.L.a3.Rect.X0 a0.L.a3.Rect.Y0 a0.L.a3.Rect.X1 a0.L.a3.Rect.Y1
            · exact SimI.vac rfl


-- 23: vedette/vedetteref3.In
def F23_e : Bool → PV × List Ob := fun r => (.one (lb r), [])
def F23 (n : Nat) (a0 : Rect) (a1 : Point) : Option Bool :=
  if decide (a0.X0 ≤ a1.X) then
    if decide (a1.X < a0.X1) then
      if decide (a0.Y0 ≤ a1.Y) then
        some (decide (a1.Y < a0.Y1))
      else
        some false
    else
      some false
  else
    some false
theorem F23_ok (n : Nat) (a0 : Rect) (a1 : Point) : ∀ r, F23 n a0 a1 = some r → D 23 [.agg [li .i64 a0.X0, li .i64 a0.Y0, li .i64 a0.X1, li .i64 a0.Y1], .agg [li .i64 a1.X, li .i64 a1.Y]] [] = some (F23_e r) := by
  refine fn_to (D := D) (n := n + 8) (nt := 31) (rs := pc23_r) (c := pc23_c5) (L := [(0, .agg [li .i64 a0.X0, li .i64 a0.Y0, li .i64 a0.X1, li .i64 a0.Y1]), (1, .agg [li .i64 a1.X, li .i64 a1.Y])]) (M := []) (k := 0) rfl rfl rfl rfl rfl rfl rfl ?_
  unfold F23
  refine Sim.seq ?_
  refine Sim.region0 ?_
  refine SimI.run 3 [(4, .one (lb false)), (3, .one (.ptr 3 0)), (2, .one (.ptr 2 0))] [(3, some (.cells [li .i64 a1.X, li .i64 a1.Y])), (2, some (.cells [li .i64 a0.X0, li .i64 a0.Y0, li .i64 a0.X1, li .i64 a0.Y1]))] (by kernel_rfl) ?_
  refine SimI.done (by kernel_rfl) ?_
  refine SimE.thenN ?_
  refine Sim.seq ?_
  refine Sim.region0 ?_
  refine SimI.run 6 [(10, .one (lb (decide (a0.X0 ≤ a1.X)))), (9, .one (lb (decide (a0.X0 ≤ a1.X)))), (8, .one (li .i64 a1.X)), (7, .one (.ptr 3 0)), (6, .one (li .i64 a0.X0)), (5, .one (.ptr 2 0))] [] (by kernel_rfl) ?_
  refine SimI.split 10 (decide (a0.X0 ≤ a1.X)) (by kernel_rfl) ?_ ?_
  · refine SimI.run 7 [(17, .one (lb (decide (a1.X < a0.X1)))), (16, .one (lb (decide (a1.X < a0.X1)))), (15, .one (lb (decide (a1.X < a0.X1)))), (14, .one (li .i64 a0.X1)), (13, .one (.ptr 2 2)), (12, .one (li .i64 a1.X)), (11, .one (.ptr 3 0))] [] (by kernel_rfl) ?_
    refine SimI.split 17 (decide (a1.X < a0.X1)) (by kernel_rfl) ?_ ?_
    · refine SimI.run 7 [(24, .one (lb (decide (a0.Y0 ≤ a1.Y)))), (23, .one (lb (decide (a0.Y0 ≤ a1.Y)))), (22, .one (lb (decide (a0.Y0 ≤ a1.Y)))), (21, .one (li .i64 a1.Y)), (20, .one (.ptr 3 1)), (19, .one (li .i64 a0.Y0)), (18, .one (.ptr 2 1))] [] (by kernel_rfl) ?_
      refine SimI.split 24 (decide (a0.Y0 ≤ a1.Y)) (by kernel_rfl) ?_ ?_
      · refine SimI.run 7 [(4, .one (lb (decide (a1.Y < a0.Y1)))), (30, .one (lb (decide (a1.Y < a0.Y1)))), (29, .one (lb (decide (a1.Y < a0.Y1)))), (28, .one (li .i64 a0.Y1)), (27, .one (.ptr 2 3)), (26, .one (li .i64 a1.Y)), (25, .one (.ptr 3 1))] [] (by kernel_rfl) ?_
        refine SimI.done (by kernel_rfl) ?_
        refine SimE.thenN ?_
        refine Sim.ret ?_
        exact SimE.fin (by kernel_rfl)
      · refine SimI.run 7 [(4, .one (lb false)), (30, .one (lb false)), (29, .tup []), (28, .tup []), (27, .tup []), (26, .tup []), (25, .tup [])] [] (by kernel_rfl) ?_
        refine SimI.done (by kernel_rfl) ?_
        refine SimE.thenN ?_
        refine Sim.ret ?_
        exact SimE.fin (by kernel_rfl)
    · refine SimI.run 14 [(4, .one (lb false)), (30, .one (lb false)), (29, .tup []), (28, .tup []), (27, .tup []), (26, .tup []), (25, .tup []), (24, .one (lb false)), (23, .one (lb false)), (22, .tup []), (21, .tup []), (20, .tup []), (19, .tup []), (18, .tup [])] [] (by kernel_rfl) ?_
      refine SimI.done (by kernel_rfl) ?_
      refine SimE.thenN ?_
      refine Sim.ret ?_
      exact SimE.fin (by kernel_rfl)
  · refine SimI.run 21 [(4, .one (lb false)), (30, .one (lb false)), (29, .tup []), (28, .tup []), (27, .tup []), (26, .tup []), (25, .tup []), (24, .one (lb false)), (23, .one (lb false)), (22, .tup []), (21, .tup []), (20, .tup []), (19, .tup []), (18, .tup []), (17, .one (lb false)), (16, .one (lb false)), (15, .tup []), (14, .tup []), (13, .tup []), (12, .tup []), (11, .tup [])] [] (by kernel_rfl) ?_
    refine SimI.done (by kernel_rfl) ?_
    refine SimE.thenN ?_
    refine Sim.ret ?_
    exact SimE.fin (by kernel_rfl)


-- 43: (*vedette/vedetteref13.Book).Sees
def F43_e : (Bool × Book_vedetteref13) → PV × List Ob := fun r => (.one (lb r.1), [.cells [lb r.2.L.a0.On, li .i64 r.2.L.a0.Session, li .i64 r.2.L.a0.Start, li .i64 r.2.L.a0.Rect.X0, li .i64 r.2.L.a0.Rect.Y0, li .i64 r.2.L.a0.Rect.X1, li .i64 r.2.L.a0.Rect.Y1, lb r.2.L.a1.On, li .i64 r.2.L.a1.Session, li .i64 r.2.L.a1.Start, li .i64 r.2.L.a1.Rect.X0, li .i64 r.2.L.a1.Rect.Y0, li .i64 r.2.L.a1.Rect.X1, li .i64 r.2.L.a1.Rect.Y1, lb r.2.L.a2.On, li .i64 r.2.L.a2.Session, li .i64 r.2.L.a2.Start, li .i64 r.2.L.a2.Rect.X0, li .i64 r.2.L.a2.Rect.Y0, li .i64 r.2.L.a2.Rect.X1, li .i64 r.2.L.a2.Rect.Y1, lb r.2.L.a3.On, li .i64 r.2.L.a3.Session, li .i64 r.2.L.a3.Start, li .i64 r.2.L.a3.Rect.X0, li .i64 r.2.L.a3.Rect.Y0, li .i64 r.2.L.a3.Rect.X1, li .i64 r.2.L.a3.Rect.Y1]])
def F43 (n : Nat) (a0 : Book_vedetteref13) (a1 : Int) (a2 : Point) : Option (Bool × Book_vedetteref13) :=
  if decide ((0 : Int) ≤ a1) then
    if decide (a1 < 4) then
      if a1 = 0 then
        if a0.L.a0.On then
          if a1 = 0 then
            (F23 n a0.L.a0.Rect a2).bind fun (r1 : Bool) =>
            some (r1, a0)
          else
            if a1 = 1 then
              (F23 n a0.L.a1.Rect a2).bind fun (r2 : Bool) =>
              some (r2, a0)
            else
              if a1 = 2 then
                (F23 n a0.L.a2.Rect a2).bind fun (r3 : Bool) =>
                some (r3, a0)
              else
                if a1 = 3 then
                  (F23 n a0.L.a3.Rect a2).bind fun (r4 : Bool) =>
                  some (r4, a0)
                else
                  none
        else
          some (false, a0)
      else
        if a1 = 1 then
          if a0.L.a1.On then
            if a1 = 0 then
              (F23 n a0.L.a0.Rect a2).bind fun (r5 : Bool) =>
              some (r5, a0)
            else
              if a1 = 1 then
                (F23 n a0.L.a1.Rect a2).bind fun (r6 : Bool) =>
                some (r6, a0)
              else
                if a1 = 2 then
                  (F23 n a0.L.a2.Rect a2).bind fun (r7 : Bool) =>
                  some (r7, a0)
                else
                  if a1 = 3 then
                    (F23 n a0.L.a3.Rect a2).bind fun (r8 : Bool) =>
                    some (r8, a0)
                  else
                    none
          else
            some (false, a0)
        else
          if a1 = 2 then
            if a0.L.a2.On then
              if a1 = 0 then
                (F23 n a0.L.a0.Rect a2).bind fun (r9 : Bool) =>
                some (r9, a0)
              else
                if a1 = 1 then
                  (F23 n a0.L.a1.Rect a2).bind fun (r10 : Bool) =>
                  some (r10, a0)
                else
                  if a1 = 2 then
                    (F23 n a0.L.a2.Rect a2).bind fun (r11 : Bool) =>
                    some (r11, a0)
                  else
                    if a1 = 3 then
                      (F23 n a0.L.a3.Rect a2).bind fun (r12 : Bool) =>
                      some (r12, a0)
                    else
                      none
            else
              some (false, a0)
          else
            if a1 = 3 then
              if a0.L.a3.On then
                if a1 = 0 then
                  (F23 n a0.L.a0.Rect a2).bind fun (r13 : Bool) =>
                  some (r13, a0)
                else
                  if a1 = 1 then
                    (F23 n a0.L.a1.Rect a2).bind fun (r14 : Bool) =>
                    some (r14, a0)
                  else
                    if a1 = 2 then
                      (F23 n a0.L.a2.Rect a2).bind fun (r15 : Bool) =>
                      some (r15, a0)
                    else
                      if a1 = 3 then
                        (F23 n a0.L.a3.Rect a2).bind fun (r16 : Bool) =>
                        some (r16, a0)
                      else
                        none
              else
                some (false, a0)
            else
              none
    else
      some (false, a0)
  else
    some (false, a0)
theorem F43_ok (n : Nat) (a0 : Book_vedetteref13) (a1 : Int) (a2 : Point) : ∀ r, F43 n a0 a1 a2 = some r → D 43 [.one (.ptr 1000000 0), .one (li .i64 a1), .agg [li .i64 a2.X, li .i64 a2.Y]] [.cells [lb a0.L.a0.On, li .i64 a0.L.a0.Session, li .i64 a0.L.a0.Start, li .i64 a0.L.a0.Rect.X0, li .i64 a0.L.a0.Rect.Y0, li .i64 a0.L.a0.Rect.X1, li .i64 a0.L.a0.Rect.Y1, lb a0.L.a1.On, li .i64 a0.L.a1.Session, li .i64 a0.L.a1.Start, li .i64 a0.L.a1.Rect.X0, li .i64 a0.L.a1.Rect.Y0, li .i64 a0.L.a1.Rect.X1, li .i64 a0.L.a1.Rect.Y1, lb a0.L.a2.On, li .i64 a0.L.a2.Session, li .i64 a0.L.a2.Start, li .i64 a0.L.a2.Rect.X0, li .i64 a0.L.a2.Rect.Y0, li .i64 a0.L.a2.Rect.X1, li .i64 a0.L.a2.Rect.Y1, lb a0.L.a3.On, li .i64 a0.L.a3.Session, li .i64 a0.L.a3.Start, li .i64 a0.L.a3.Rect.X0, li .i64 a0.L.a3.Rect.Y0, li .i64 a0.L.a3.Rect.X1, li .i64 a0.L.a3.Rect.Y1]] = some (F43_e r) := by
  refine fn_to (D := D) (n := n + 8) (nt := 33) (rs := pc43_r) (c := pc43_c5) (L := [(0, .one (.ptr 1000000 0)), (1, .one (li .i64 a1)), (2, .agg [li .i64 a2.X, li .i64 a2.Y])]) (M := [(1000000, some (.cells [lb a0.L.a0.On, li .i64 a0.L.a0.Session, li .i64 a0.L.a0.Start, li .i64 a0.L.a0.Rect.X0, li .i64 a0.L.a0.Rect.Y0, li .i64 a0.L.a0.Rect.X1, li .i64 a0.L.a0.Rect.Y1, lb a0.L.a1.On, li .i64 a0.L.a1.Session, li .i64 a0.L.a1.Start, li .i64 a0.L.a1.Rect.X0, li .i64 a0.L.a1.Rect.Y0, li .i64 a0.L.a1.Rect.X1, li .i64 a0.L.a1.Rect.Y1, lb a0.L.a2.On, li .i64 a0.L.a2.Session, li .i64 a0.L.a2.Start, li .i64 a0.L.a2.Rect.X0, li .i64 a0.L.a2.Rect.Y0, li .i64 a0.L.a2.Rect.X1, li .i64 a0.L.a2.Rect.Y1, lb a0.L.a3.On, li .i64 a0.L.a3.Session, li .i64 a0.L.a3.Start, li .i64 a0.L.a3.Rect.X0, li .i64 a0.L.a3.Rect.Y0, li .i64 a0.L.a3.Rect.X1, li .i64 a0.L.a3.Rect.Y1]))]) (k := 1) rfl rfl rfl rfl rfl rfl rfl ?_
  unfold F43
  refine Sim.seq ?_
  refine Sim.region0 ?_
  refine SimI.run 2 [(6, .one (lb false)), (5, .one (.ptr 5 0))] [(5, some (.cells [li .i64 a2.X, li .i64 a2.Y]))] (by kernel_rfl) ?_
  refine SimI.done (by kernel_rfl) ?_
  refine SimE.thenN ?_
  refine Sim.seq ?_
  refine Sim.region0 ?_
  refine SimI.run 3 [(9, .one (lb (decide ((0 : Int) ≤ a1)))), (8, .one (lb (decide ((0 : Int) ≤ a1)))), (7, .one (li .i64 a1))] [] (by kernel_rfl) ?_
  refine SimI.split 9 (decide ((0 : Int) ≤ a1)) (by kernel_rfl) ?_ ?_
  · refine SimI.run 4 [(13, .one (lb (decide (a1 < 4)))), (12, .one (lb (decide (a1 < 4)))), (11, .one (lb (decide (a1 < 4)))), (10, .one (li .i64 a1))] [] (by kernel_rfl) ?_
    refine SimI.split 13 (decide (a1 < 4)) (by kernel_rfl) ?_ ?_
    · refine SimI.run 4 [(17, .one (.ptr 1000000 0)), (16, .one (.ptr 1000000 0)), (15, .one (li .i64 a1)), (14, .one (.ptr 1000000 0))] [] (by kernel_rfl) ?_
      refine SimI.casei 15 .i64 a1 0 (by kernel_rfl) ?_ ?_
      · refine SimI.run 5 [(22, .one (lb a0.L.a0.On)), (21, .one (lb a0.L.a0.On)), (20, .one (lb a0.L.a0.On)), (19, .one (.ptr 1000000 0)), (18, .one (.ptr 1000000 0))] [] (by kernel_rfl) ?_
        refine SimI.split 22 a0.L.a0.On (by kernel_rfl) ?_ ?_
        · refine SimI.run 4 [(26, .one (.ptr 1000000 0)), (25, .one (.ptr 1000000 0)), (24, .one (li .i64 a1)), (23, .one (.ptr 1000000 0))] [] (by kernel_rfl) ?_
          refine SimI.casei 24 .i64 a1 0 (by kernel_rfl) ?_ ?_
          · refine SimI.run 4 [(30, .agg [li .i64 a2.X, li .i64 a2.Y]), (29, .agg [li .i64 a0.L.a0.Rect.X0, li .i64 a0.L.a0.Rect.Y0, li .i64 a0.L.a0.Rect.X1, li .i64 a0.L.a0.Rect.Y1]), (28, .one (.ptr 1000000 3)), (27, .one (.ptr 1000000 0))] [] (by kernel_rfl) ?_
            refine SimI.bind (og := F23 n a0.L.a0.Rect a2) { dst := some 31, op := POp.call false [[], []] 23 [Operand.tmp 29, Operand.tmp 30], guard := some (22, true), hints := [(29, Hint.imm), (30, Hint.imm)] } (fun r1 => [(31, .one (lb r1))]) (fun r1 => []) (by kernel_rfl) (fun r1 hr => pOp_eff (by kernel_rfl) (by kernel_rfl) (eff_call (ARGS := [.agg [li .i64 a0.L.a0.Rect.X0, li .i64 a0.L.a0.Rect.Y0, li .i64 a0.L.a0.Rect.X1, li .i64 a0.L.a0.Rect.Y1], .agg [li .i64 a2.X, li .i64 a2.Y]]) (by kernel_rfl) (args_clean (by kernel_rfl) (args_clean (by kernel_rfl) args_nil)) (F23_ok n a0.L.a0.Rect a2 r1 hr) (by kernel_rfl))) (fun r1 => ?_)
            refine SimI.run 2 [(6, .one (lb r1)), (32, .one (lb r1))] [] (by kernel_rfl) ?_
            refine SimI.done (by kernel_rfl) ?_
            refine SimE.thenN ?_
            refine Sim.ret ?_
            exact SimE.fin (by kernel_rfl)
          · refine SimI.casei 24 .i64 a1 1 (by kernel_rfl) ?_ ?_
            · refine SimI.run 4 [(30, .agg [li .i64 a2.X, li .i64 a2.Y]), (29, .agg [li .i64 a0.L.a1.Rect.X0, li .i64 a0.L.a1.Rect.Y0, li .i64 a0.L.a1.Rect.X1, li .i64 a0.L.a1.Rect.Y1]), (28, .one (.ptr 1000000 10)), (27, .one (.ptr 1000000 7))] [] (by kernel_rfl) ?_
              refine SimI.bind (og := F23 n a0.L.a1.Rect a2) { dst := some 31, op := POp.call false [[], []] 23 [Operand.tmp 29, Operand.tmp 30], guard := some (22, true), hints := [(29, Hint.imm), (30, Hint.imm)] } (fun r2 => [(31, .one (lb r2))]) (fun r2 => []) (by kernel_rfl) (fun r2 hr => pOp_eff (by kernel_rfl) (by kernel_rfl) (eff_call (ARGS := [.agg [li .i64 a0.L.a1.Rect.X0, li .i64 a0.L.a1.Rect.Y0, li .i64 a0.L.a1.Rect.X1, li .i64 a0.L.a1.Rect.Y1], .agg [li .i64 a2.X, li .i64 a2.Y]]) (by kernel_rfl) (args_clean (by kernel_rfl) (args_clean (by kernel_rfl) args_nil)) (F23_ok n a0.L.a1.Rect a2 r2 hr) (by kernel_rfl))) (fun r2 => ?_)
              refine SimI.run 2 [(6, .one (lb r2)), (32, .one (lb r2))] [] (by kernel_rfl) ?_
              refine SimI.done (by kernel_rfl) ?_
              refine SimE.thenN ?_
              refine Sim.ret ?_
              exact SimE.fin (by kernel_rfl)
            · refine SimI.casei 24 .i64 a1 2 (by kernel_rfl) ?_ ?_
              · refine SimI.run 4 [(30, .agg [li .i64 a2.X, li .i64 a2.Y]), (29, .agg [li .i64 a0.L.a2.Rect.X0, li .i64 a0.L.a2.Rect.Y0, li .i64 a0.L.a2.Rect.X1, li .i64 a0.L.a2.Rect.Y1]), (28, .one (.ptr 1000000 17)), (27, .one (.ptr 1000000 14))] [] (by kernel_rfl) ?_
                refine SimI.bind (og := F23 n a0.L.a2.Rect a2) { dst := some 31, op := POp.call false [[], []] 23 [Operand.tmp 29, Operand.tmp 30], guard := some (22, true), hints := [(29, Hint.imm), (30, Hint.imm)] } (fun r3 => [(31, .one (lb r3))]) (fun r3 => []) (by kernel_rfl) (fun r3 hr => pOp_eff (by kernel_rfl) (by kernel_rfl) (eff_call (ARGS := [.agg [li .i64 a0.L.a2.Rect.X0, li .i64 a0.L.a2.Rect.Y0, li .i64 a0.L.a2.Rect.X1, li .i64 a0.L.a2.Rect.Y1], .agg [li .i64 a2.X, li .i64 a2.Y]]) (by kernel_rfl) (args_clean (by kernel_rfl) (args_clean (by kernel_rfl) args_nil)) (F23_ok n a0.L.a2.Rect a2 r3 hr) (by kernel_rfl))) (fun r3 => ?_)
                refine SimI.run 2 [(6, .one (lb r3)), (32, .one (lb r3))] [] (by kernel_rfl) ?_
                refine SimI.done (by kernel_rfl) ?_
                refine SimE.thenN ?_
                refine Sim.ret ?_
                exact SimE.fin (by kernel_rfl)
              · refine SimI.casei 24 .i64 a1 3 (by kernel_rfl) ?_ ?_
                · refine SimI.run 4 [(30, .agg [li .i64 a2.X, li .i64 a2.Y]), (29, .agg [li .i64 a0.L.a3.Rect.X0, li .i64 a0.L.a3.Rect.Y0, li .i64 a0.L.a3.Rect.X1, li .i64 a0.L.a3.Rect.Y1]), (28, .one (.ptr 1000000 24)), (27, .one (.ptr 1000000 21))] [] (by kernel_rfl) ?_
                  refine SimI.bind (og := F23 n a0.L.a3.Rect a2) { dst := some 31, op := POp.call false [[], []] 23 [Operand.tmp 29, Operand.tmp 30], guard := some (22, true), hints := [(29, Hint.imm), (30, Hint.imm)] } (fun r4 => [(31, .one (lb r4))]) (fun r4 => []) (by kernel_rfl) (fun r4 hr => pOp_eff (by kernel_rfl) (by kernel_rfl) (eff_call (ARGS := [.agg [li .i64 a0.L.a3.Rect.X0, li .i64 a0.L.a3.Rect.Y0, li .i64 a0.L.a3.Rect.X1, li .i64 a0.L.a3.Rect.Y1], .agg [li .i64 a2.X, li .i64 a2.Y]]) (by kernel_rfl) (args_clean (by kernel_rfl) (args_clean (by kernel_rfl) args_nil)) (F23_ok n a0.L.a3.Rect a2 r4 hr) (by kernel_rfl))) (fun r4 => ?_)
                  refine SimI.run 2 [(6, .one (lb r4)), (32, .one (lb r4))] [] (by kernel_rfl) ?_
                  refine SimI.done (by kernel_rfl) ?_
                  refine SimE.thenN ?_
                  refine Sim.ret ?_
                  exact SimE.fin (by kernel_rfl)
                · exact SimI.vac rfl
        · refine SimI.run 11 [(6, .one (lb false)), (32, .one (lb false)), (31, .tup []), (30, .tup []), (29, .tup []), (28, .tup []), (27, .tup []), (26, .tup []), (25, .tup []), (24, .tup []), (23, .tup [])] [] (by kernel_rfl) ?_
          refine SimI.done (by kernel_rfl) ?_
          refine SimE.thenN ?_
          refine Sim.ret ?_
          exact SimE.fin (by kernel_rfl)
      · refine SimI.casei 15 .i64 a1 1 (by kernel_rfl) ?_ ?_
        · refine SimI.run 5 [(22, .one (lb a0.L.a1.On)), (21, .one (lb a0.L.a1.On)), (20, .one (lb a0.L.a1.On)), (19, .one (.ptr 1000000 7)), (18, .one (.ptr 1000000 7))] [] (by kernel_rfl) ?_
          refine SimI.split 22 a0.L.a1.On (by kernel_rfl) ?_ ?_
          · refine SimI.run 4 [(26, .one (.ptr 1000000 0)), (25, .one (.ptr 1000000 0)), (24, .one (li .i64 a1)), (23, .one (.ptr 1000000 0))] [] (by kernel_rfl) ?_
            refine SimI.casei 24 .i64 a1 0 (by kernel_rfl) ?_ ?_
            · refine SimI.run 4 [(30, .agg [li .i64 a2.X, li .i64 a2.Y]), (29, .agg [li .i64 a0.L.a0.Rect.X0, li .i64 a0.L.a0.Rect.Y0, li .i64 a0.L.a0.Rect.X1, li .i64 a0.L.a0.Rect.Y1]), (28, .one (.ptr 1000000 3)), (27, .one (.ptr 1000000 0))] [] (by kernel_rfl) ?_
              refine SimI.bind (og := F23 n a0.L.a0.Rect a2) { dst := some 31, op := POp.call false [[], []] 23 [Operand.tmp 29, Operand.tmp 30], guard := some (22, true), hints := [(29, Hint.imm), (30, Hint.imm)] } (fun r5 => [(31, .one (lb r5))]) (fun r5 => []) (by kernel_rfl) (fun r5 hr => pOp_eff (by kernel_rfl) (by kernel_rfl) (eff_call (ARGS := [.agg [li .i64 a0.L.a0.Rect.X0, li .i64 a0.L.a0.Rect.Y0, li .i64 a0.L.a0.Rect.X1, li .i64 a0.L.a0.Rect.Y1], .agg [li .i64 a2.X, li .i64 a2.Y]]) (by kernel_rfl) (args_clean (by kernel_rfl) (args_clean (by kernel_rfl) args_nil)) (F23_ok n a0.L.a0.Rect a2 r5 hr) (by kernel_rfl))) (fun r5 => ?_)
              refine SimI.run 2 [(6, .one (lb r5)), (32, .one (lb r5))] [] (by kernel_rfl) ?_
              refine SimI.done (by kernel_rfl) ?_
              refine SimE.thenN ?_
              refine Sim.ret ?_
              exact SimE.fin (by kernel_rfl)
            · refine SimI.casei 24 .i64 a1 1 (by kernel_rfl) ?_ ?_
              · refine SimI.run 4 [(30, .agg [li .i64 a2.X, li .i64 a2.Y]), (29, .agg [li .i64 a0.L.a1.Rect.X0, li .i64 a0.L.a1.Rect.Y0, li .i64 a0.L.a1.Rect.X1, li .i64 a0.L.a1.Rect.Y1]), (28, .one (.ptr 1000000 10)), (27, .one (.ptr 1000000 7))] [] (by kernel_rfl) ?_
                refine SimI.bind (og := F23 n a0.L.a1.Rect a2) { dst := some 31, op := POp.call false [[], []] 23 [Operand.tmp 29, Operand.tmp 30], guard := some (22, true), hints := [(29, Hint.imm), (30, Hint.imm)] } (fun r6 => [(31, .one (lb r6))]) (fun r6 => []) (by kernel_rfl) (fun r6 hr => pOp_eff (by kernel_rfl) (by kernel_rfl) (eff_call (ARGS := [.agg [li .i64 a0.L.a1.Rect.X0, li .i64 a0.L.a1.Rect.Y0, li .i64 a0.L.a1.Rect.X1, li .i64 a0.L.a1.Rect.Y1], .agg [li .i64 a2.X, li .i64 a2.Y]]) (by kernel_rfl) (args_clean (by kernel_rfl) (args_clean (by kernel_rfl) args_nil)) (F23_ok n a0.L.a1.Rect a2 r6 hr) (by kernel_rfl))) (fun r6 => ?_)
                refine SimI.run 2 [(6, .one (lb r6)), (32, .one (lb r6))] [] (by kernel_rfl) ?_
                refine SimI.done (by kernel_rfl) ?_
                refine SimE.thenN ?_
                refine Sim.ret ?_
                exact SimE.fin (by kernel_rfl)
              · refine SimI.casei 24 .i64 a1 2 (by kernel_rfl) ?_ ?_
                · refine SimI.run 4 [(30, .agg [li .i64 a2.X, li .i64 a2.Y]), (29, .agg [li .i64 a0.L.a2.Rect.X0, li .i64 a0.L.a2.Rect.Y0, li .i64 a0.L.a2.Rect.X1, li .i64 a0.L.a2.Rect.Y1]), (28, .one (.ptr 1000000 17)), (27, .one (.ptr 1000000 14))] [] (by kernel_rfl) ?_
                  refine SimI.bind (og := F23 n a0.L.a2.Rect a2) { dst := some 31, op := POp.call false [[], []] 23 [Operand.tmp 29, Operand.tmp 30], guard := some (22, true), hints := [(29, Hint.imm), (30, Hint.imm)] } (fun r7 => [(31, .one (lb r7))]) (fun r7 => []) (by kernel_rfl) (fun r7 hr => pOp_eff (by kernel_rfl) (by kernel_rfl) (eff_call (ARGS := [.agg [li .i64 a0.L.a2.Rect.X0, li .i64 a0.L.a2.Rect.Y0, li .i64 a0.L.a2.Rect.X1, li .i64 a0.L.a2.Rect.Y1], .agg [li .i64 a2.X, li .i64 a2.Y]]) (by kernel_rfl) (args_clean (by kernel_rfl) (args_clean (by kernel_rfl) args_nil)) (F23_ok n a0.L.a2.Rect a2 r7 hr) (by kernel_rfl))) (fun r7 => ?_)
                  refine SimI.run 2 [(6, .one (lb r7)), (32, .one (lb r7))] [] (by kernel_rfl) ?_
                  refine SimI.done (by kernel_rfl) ?_
                  refine SimE.thenN ?_
                  refine Sim.ret ?_
                  exact SimE.fin (by kernel_rfl)
                · refine SimI.casei 24 .i64 a1 3 (by kernel_rfl) ?_ ?_
                  · refine SimI.run 4 [(30, .agg [li .i64 a2.X, li .i64 a2.Y]), (29, .agg [li .i64 a0.L.a3.Rect.X0, li .i64 a0.L.a3.Rect.Y0, li .i64 a0.L.a3.Rect.X1, li .i64 a0.L.a3.Rect.Y1]), (28, .one (.ptr 1000000 24)), (27, .one (.ptr 1000000 21))] [] (by kernel_rfl) ?_
                    refine SimI.bind (og := F23 n a0.L.a3.Rect a2) { dst := some 31, op := POp.call false [[], []] 23 [Operand.tmp 29, Operand.tmp 30], guard := some (22, true), hints := [(29, Hint.imm), (30, Hint.imm)] } (fun r8 => [(31, .one (lb r8))]) (fun r8 => []) (by kernel_rfl) (fun r8 hr => pOp_eff (by kernel_rfl) (by kernel_rfl) (eff_call (ARGS := [.agg [li .i64 a0.L.a3.Rect.X0, li .i64 a0.L.a3.Rect.Y0, li .i64 a0.L.a3.Rect.X1, li .i64 a0.L.a3.Rect.Y1], .agg [li .i64 a2.X, li .i64 a2.Y]]) (by kernel_rfl) (args_clean (by kernel_rfl) (args_clean (by kernel_rfl) args_nil)) (F23_ok n a0.L.a3.Rect a2 r8 hr) (by kernel_rfl))) (fun r8 => ?_)
                    refine SimI.run 2 [(6, .one (lb r8)), (32, .one (lb r8))] [] (by kernel_rfl) ?_
                    refine SimI.done (by kernel_rfl) ?_
                    refine SimE.thenN ?_
                    refine Sim.ret ?_
                    exact SimE.fin (by kernel_rfl)
                  · exact SimI.vac rfl
          · refine SimI.run 11 [(6, .one (lb false)), (32, .one (lb false)), (31, .tup []), (30, .tup []), (29, .tup []), (28, .tup []), (27, .tup []), (26, .tup []), (25, .tup []), (24, .tup []), (23, .tup [])] [] (by kernel_rfl) ?_
            refine SimI.done (by kernel_rfl) ?_
            refine SimE.thenN ?_
            refine Sim.ret ?_
            exact SimE.fin (by kernel_rfl)
        · refine SimI.casei 15 .i64 a1 2 (by kernel_rfl) ?_ ?_
          · refine SimI.run 5 [(22, .one (lb a0.L.a2.On)), (21, .one (lb a0.L.a2.On)), (20, .one (lb a0.L.a2.On)), (19, .one (.ptr 1000000 14)), (18, .one (.ptr 1000000 14))] [] (by kernel_rfl) ?_
            refine SimI.split 22 a0.L.a2.On (by kernel_rfl) ?_ ?_
            · refine SimI.run 4 [(26, .one (.ptr 1000000 0)), (25, .one (.ptr 1000000 0)), (24, .one (li .i64 a1)), (23, .one (.ptr 1000000 0))] [] (by kernel_rfl) ?_
              refine SimI.casei 24 .i64 a1 0 (by kernel_rfl) ?_ ?_
              · refine SimI.run 4 [(30, .agg [li .i64 a2.X, li .i64 a2.Y]), (29, .agg [li .i64 a0.L.a0.Rect.X0, li .i64 a0.L.a0.Rect.Y0, li .i64 a0.L.a0.Rect.X1, li .i64 a0.L.a0.Rect.Y1]), (28, .one (.ptr 1000000 3)), (27, .one (.ptr 1000000 0))] [] (by kernel_rfl) ?_
                refine SimI.bind (og := F23 n a0.L.a0.Rect a2) { dst := some 31, op := POp.call false [[], []] 23 [Operand.tmp 29, Operand.tmp 30], guard := some (22, true), hints := [(29, Hint.imm), (30, Hint.imm)] } (fun r9 => [(31, .one (lb r9))]) (fun r9 => []) (by kernel_rfl) (fun r9 hr => pOp_eff (by kernel_rfl) (by kernel_rfl) (eff_call (ARGS := [.agg [li .i64 a0.L.a0.Rect.X0, li .i64 a0.L.a0.Rect.Y0, li .i64 a0.L.a0.Rect.X1, li .i64 a0.L.a0.Rect.Y1], .agg [li .i64 a2.X, li .i64 a2.Y]]) (by kernel_rfl) (args_clean (by kernel_rfl) (args_clean (by kernel_rfl) args_nil)) (F23_ok n a0.L.a0.Rect a2 r9 hr) (by kernel_rfl))) (fun r9 => ?_)
                refine SimI.run 2 [(6, .one (lb r9)), (32, .one (lb r9))] [] (by kernel_rfl) ?_
                refine SimI.done (by kernel_rfl) ?_
                refine SimE.thenN ?_
                refine Sim.ret ?_
                exact SimE.fin (by kernel_rfl)
              · refine SimI.casei 24 .i64 a1 1 (by kernel_rfl) ?_ ?_
                · refine SimI.run 4 [(30, .agg [li .i64 a2.X, li .i64 a2.Y]), (29, .agg [li .i64 a0.L.a1.Rect.X0, li .i64 a0.L.a1.Rect.Y0, li .i64 a0.L.a1.Rect.X1, li .i64 a0.L.a1.Rect.Y1]), (28, .one (.ptr 1000000 10)), (27, .one (.ptr 1000000 7))] [] (by kernel_rfl) ?_
                  refine SimI.bind (og := F23 n a0.L.a1.Rect a2) { dst := some 31, op := POp.call false [[], []] 23 [Operand.tmp 29, Operand.tmp 30], guard := some (22, true), hints := [(29, Hint.imm), (30, Hint.imm)] } (fun r10 => [(31, .one (lb r10))]) (fun r10 => []) (by kernel_rfl) (fun r10 hr => pOp_eff (by kernel_rfl) (by kernel_rfl) (eff_call (ARGS := [.agg [li .i64 a0.L.a1.Rect.X0, li .i64 a0.L.a1.Rect.Y0, li .i64 a0.L.a1.Rect.X1, li .i64 a0.L.a1.Rect.Y1], .agg [li .i64 a2.X, li .i64 a2.Y]]) (by kernel_rfl) (args_clean (by kernel_rfl) (args_clean (by kernel_rfl) args_nil)) (F23_ok n a0.L.a1.Rect a2 r10 hr) (by kernel_rfl))) (fun r10 => ?_)
                  refine SimI.run 2 [(6, .one (lb r10)), (32, .one (lb r10))] [] (by kernel_rfl) ?_
                  refine SimI.done (by kernel_rfl) ?_
                  refine SimE.thenN ?_
                  refine Sim.ret ?_
                  exact SimE.fin (by kernel_rfl)
                · refine SimI.casei 24 .i64 a1 2 (by kernel_rfl) ?_ ?_
                  · refine SimI.run 4 [(30, .agg [li .i64 a2.X, li .i64 a2.Y]), (29, .agg [li .i64 a0.L.a2.Rect.X0, li .i64 a0.L.a2.Rect.Y0, li .i64 a0.L.a2.Rect.X1, li .i64 a0.L.a2.Rect.Y1]), (28, .one (.ptr 1000000 17)), (27, .one (.ptr 1000000 14))] [] (by kernel_rfl) ?_
                    refine SimI.bind (og := F23 n a0.L.a2.Rect a2) { dst := some 31, op := POp.call false [[], []] 23 [Operand.tmp 29, Operand.tmp 30], guard := some (22, true), hints := [(29, Hint.imm), (30, Hint.imm)] } (fun r11 => [(31, .one (lb r11))]) (fun r11 => []) (by kernel_rfl) (fun r11 hr => pOp_eff (by kernel_rfl) (by kernel_rfl) (eff_call (ARGS := [.agg [li .i64 a0.L.a2.Rect.X0, li .i64 a0.L.a2.Rect.Y0, li .i64 a0.L.a2.Rect.X1, li .i64 a0.L.a2.Rect.Y1], .agg [li .i64 a2.X, li .i64 a2.Y]]) (by kernel_rfl) (args_clean (by kernel_rfl) (args_clean (by kernel_rfl) args_nil)) (F23_ok n a0.L.a2.Rect a2 r11 hr) (by kernel_rfl))) (fun r11 => ?_)
                    refine SimI.run 2 [(6, .one (lb r11)), (32, .one (lb r11))] [] (by kernel_rfl) ?_
                    refine SimI.done (by kernel_rfl) ?_
                    refine SimE.thenN ?_
                    refine Sim.ret ?_
                    exact SimE.fin (by kernel_rfl)
                  · refine SimI.casei 24 .i64 a1 3 (by kernel_rfl) ?_ ?_
                    · refine SimI.run 4 [(30, .agg [li .i64 a2.X, li .i64 a2.Y]), (29, .agg [li .i64 a0.L.a3.Rect.X0, li .i64 a0.L.a3.Rect.Y0, li .i64 a0.L.a3.Rect.X1, li .i64 a0.L.a3.Rect.Y1]), (28, .one (.ptr 1000000 24)), (27, .one (.ptr 1000000 21))] [] (by kernel_rfl) ?_
                      refine SimI.bind (og := F23 n a0.L.a3.Rect a2) { dst := some 31, op := POp.call false [[], []] 23 [Operand.tmp 29, Operand.tmp 30], guard := some (22, true), hints := [(29, Hint.imm), (30, Hint.imm)] } (fun r12 => [(31, .one (lb r12))]) (fun r12 => []) (by kernel_rfl) (fun r12 hr => pOp_eff (by kernel_rfl) (by kernel_rfl) (eff_call (ARGS := [.agg [li .i64 a0.L.a3.Rect.X0, li .i64 a0.L.a3.Rect.Y0, li .i64 a0.L.a3.Rect.X1, li .i64 a0.L.a3.Rect.Y1], .agg [li .i64 a2.X, li .i64 a2.Y]]) (by kernel_rfl) (args_clean (by kernel_rfl) (args_clean (by kernel_rfl) args_nil)) (F23_ok n a0.L.a3.Rect a2 r12 hr) (by kernel_rfl))) (fun r12 => ?_)
                      refine SimI.run 2 [(6, .one (lb r12)), (32, .one (lb r12))] [] (by kernel_rfl) ?_
                      refine SimI.done (by kernel_rfl) ?_
                      refine SimE.thenN ?_
                      refine Sim.ret ?_
                      exact SimE.fin (by kernel_rfl)
                    · exact SimI.vac rfl
            · refine SimI.run 11 [(6, .one (lb false)), (32, .one (lb false)), (31, .tup []), (30, .tup []), (29, .tup []), (28, .tup []), (27, .tup []), (26, .tup []), (25, .tup []), (24, .tup []), (23, .tup [])] [] (by kernel_rfl) ?_
              refine SimI.done (by kernel_rfl) ?_
              refine SimE.thenN ?_
              refine Sim.ret ?_
              exact SimE.fin (by kernel_rfl)
          · refine SimI.casei 15 .i64 a1 3 (by kernel_rfl) ?_ ?_
            · refine SimI.run 5 [(22, .one (lb a0.L.a3.On)), (21, .one (lb a0.L.a3.On)), (20, .one (lb a0.L.a3.On)), (19, .one (.ptr 1000000 21)), (18, .one (.ptr 1000000 21))] [] (by kernel_rfl) ?_
              refine SimI.split 22 a0.L.a3.On (by kernel_rfl) ?_ ?_
              · refine SimI.run 4 [(26, .one (.ptr 1000000 0)), (25, .one (.ptr 1000000 0)), (24, .one (li .i64 a1)), (23, .one (.ptr 1000000 0))] [] (by kernel_rfl) ?_
                refine SimI.casei 24 .i64 a1 0 (by kernel_rfl) ?_ ?_
                · refine SimI.run 4 [(30, .agg [li .i64 a2.X, li .i64 a2.Y]), (29, .agg [li .i64 a0.L.a0.Rect.X0, li .i64 a0.L.a0.Rect.Y0, li .i64 a0.L.a0.Rect.X1, li .i64 a0.L.a0.Rect.Y1]), (28, .one (.ptr 1000000 3)), (27, .one (.ptr 1000000 0))] [] (by kernel_rfl) ?_
                  refine SimI.bind (og := F23 n a0.L.a0.Rect a2) { dst := some 31, op := POp.call false [[], []] 23 [Operand.tmp 29, Operand.tmp 30], guard := some (22, true), hints := [(29, Hint.imm), (30, Hint.imm)] } (fun r13 => [(31, .one (lb r13))]) (fun r13 => []) (by kernel_rfl) (fun r13 hr => pOp_eff (by kernel_rfl) (by kernel_rfl) (eff_call (ARGS := [.agg [li .i64 a0.L.a0.Rect.X0, li .i64 a0.L.a0.Rect.Y0, li .i64 a0.L.a0.Rect.X1, li .i64 a0.L.a0.Rect.Y1], .agg [li .i64 a2.X, li .i64 a2.Y]]) (by kernel_rfl) (args_clean (by kernel_rfl) (args_clean (by kernel_rfl) args_nil)) (F23_ok n a0.L.a0.Rect a2 r13 hr) (by kernel_rfl))) (fun r13 => ?_)
                  refine SimI.run 2 [(6, .one (lb r13)), (32, .one (lb r13))] [] (by kernel_rfl) ?_
                  refine SimI.done (by kernel_rfl) ?_
                  refine SimE.thenN ?_
                  refine Sim.ret ?_
                  exact SimE.fin (by kernel_rfl)
                · refine SimI.casei 24 .i64 a1 1 (by kernel_rfl) ?_ ?_
                  · refine SimI.run 4 [(30, .agg [li .i64 a2.X, li .i64 a2.Y]), (29, .agg [li .i64 a0.L.a1.Rect.X0, li .i64 a0.L.a1.Rect.Y0, li .i64 a0.L.a1.Rect.X1, li .i64 a0.L.a1.Rect.Y1]), (28, .one (.ptr 1000000 10)), (27, .one (.ptr 1000000 7))] [] (by kernel_rfl) ?_
                    refine SimI.bind (og := F23 n a0.L.a1.Rect a2) { dst := some 31, op := POp.call false [[], []] 23 [Operand.tmp 29, Operand.tmp 30], guard := some (22, true), hints := [(29, Hint.imm), (30, Hint.imm)] } (fun r14 => [(31, .one (lb r14))]) (fun r14 => []) (by kernel_rfl) (fun r14 hr => pOp_eff (by kernel_rfl) (by kernel_rfl) (eff_call (ARGS := [.agg [li .i64 a0.L.a1.Rect.X0, li .i64 a0.L.a1.Rect.Y0, li .i64 a0.L.a1.Rect.X1, li .i64 a0.L.a1.Rect.Y1], .agg [li .i64 a2.X, li .i64 a2.Y]]) (by kernel_rfl) (args_clean (by kernel_rfl) (args_clean (by kernel_rfl) args_nil)) (F23_ok n a0.L.a1.Rect a2 r14 hr) (by kernel_rfl))) (fun r14 => ?_)
                    refine SimI.run 2 [(6, .one (lb r14)), (32, .one (lb r14))] [] (by kernel_rfl) ?_
                    refine SimI.done (by kernel_rfl) ?_
                    refine SimE.thenN ?_
                    refine Sim.ret ?_
                    exact SimE.fin (by kernel_rfl)
                  · refine SimI.casei 24 .i64 a1 2 (by kernel_rfl) ?_ ?_
                    · refine SimI.run 4 [(30, .agg [li .i64 a2.X, li .i64 a2.Y]), (29, .agg [li .i64 a0.L.a2.Rect.X0, li .i64 a0.L.a2.Rect.Y0, li .i64 a0.L.a2.Rect.X1, li .i64 a0.L.a2.Rect.Y1]), (28, .one (.ptr 1000000 17)), (27, .one (.ptr 1000000 14))] [] (by kernel_rfl) ?_
                      refine SimI.bind (og := F23 n a0.L.a2.Rect a2) { dst := some 31, op := POp.call false [[], []] 23 [Operand.tmp 29, Operand.tmp 30], guard := some (22, true), hints := [(29, Hint.imm), (30, Hint.imm)] } (fun r15 => [(31, .one (lb r15))]) (fun r15 => []) (by kernel_rfl) (fun r15 hr => pOp_eff (by kernel_rfl) (by kernel_rfl) (eff_call (ARGS := [.agg [li .i64 a0.L.a2.Rect.X0, li .i64 a0.L.a2.Rect.Y0, li .i64 a0.L.a2.Rect.X1, li .i64 a0.L.a2.Rect.Y1], .agg [li .i64 a2.X, li .i64 a2.Y]]) (by kernel_rfl) (args_clean (by kernel_rfl) (args_clean (by kernel_rfl) args_nil)) (F23_ok n a0.L.a2.Rect a2 r15 hr) (by kernel_rfl))) (fun r15 => ?_)
                      refine SimI.run 2 [(6, .one (lb r15)), (32, .one (lb r15))] [] (by kernel_rfl) ?_
                      refine SimI.done (by kernel_rfl) ?_
                      refine SimE.thenN ?_
                      refine Sim.ret ?_
                      exact SimE.fin (by kernel_rfl)
                    · refine SimI.casei 24 .i64 a1 3 (by kernel_rfl) ?_ ?_
                      · refine SimI.run 4 [(30, .agg [li .i64 a2.X, li .i64 a2.Y]), (29, .agg [li .i64 a0.L.a3.Rect.X0, li .i64 a0.L.a3.Rect.Y0, li .i64 a0.L.a3.Rect.X1, li .i64 a0.L.a3.Rect.Y1]), (28, .one (.ptr 1000000 24)), (27, .one (.ptr 1000000 21))] [] (by kernel_rfl) ?_
                        refine SimI.bind (og := F23 n a0.L.a3.Rect a2) { dst := some 31, op := POp.call false [[], []] 23 [Operand.tmp 29, Operand.tmp 30], guard := some (22, true), hints := [(29, Hint.imm), (30, Hint.imm)] } (fun r16 => [(31, .one (lb r16))]) (fun r16 => []) (by kernel_rfl) (fun r16 hr => pOp_eff (by kernel_rfl) (by kernel_rfl) (eff_call (ARGS := [.agg [li .i64 a0.L.a3.Rect.X0, li .i64 a0.L.a3.Rect.Y0, li .i64 a0.L.a3.Rect.X1, li .i64 a0.L.a3.Rect.Y1], .agg [li .i64 a2.X, li .i64 a2.Y]]) (by kernel_rfl) (args_clean (by kernel_rfl) (args_clean (by kernel_rfl) args_nil)) (F23_ok n a0.L.a3.Rect a2 r16 hr) (by kernel_rfl))) (fun r16 => ?_)
                        refine SimI.run 2 [(6, .one (lb r16)), (32, .one (lb r16))] [] (by kernel_rfl) ?_
                        refine SimI.done (by kernel_rfl) ?_
                        refine SimE.thenN ?_
                        refine Sim.ret ?_
                        exact SimE.fin (by kernel_rfl)
                      · exact SimI.vac rfl
              · refine SimI.run 11 [(6, .one (lb false)), (32, .one (lb false)), (31, .tup []), (30, .tup []), (29, .tup []), (28, .tup []), (27, .tup []), (26, .tup []), (25, .tup []), (24, .tup []), (23, .tup [])] [] (by kernel_rfl) ?_
                refine SimI.done (by kernel_rfl) ?_
                refine SimE.thenN ?_
                refine Sim.ret ?_
                exact SimE.fin (by kernel_rfl)
            · exact SimI.vac rfl
    · refine SimI.run 20 [(6, .one (lb false)), (32, .one (lb false)), (31, .tup []), (30, .tup []), (29, .tup []), (28, .tup []), (27, .tup []), (26, .tup []), (25, .tup []), (24, .tup []), (23, .tup []), (22, .one (lb false)), (21, .one (lb false)), (20, .tup []), (19, .tup []), (18, .tup []), (17, .tup []), (16, .tup []), (15, .tup []), (14, .tup [])] [] (by kernel_rfl) ?_
      refine SimI.done (by kernel_rfl) ?_
      refine SimE.thenN ?_
      refine Sim.ret ?_
      exact SimE.fin (by kernel_rfl)
  · refine SimI.run 24 [(6, .one (lb false)), (32, .one (lb false)), (31, .tup []), (30, .tup []), (29, .tup []), (28, .tup []), (27, .tup []), (26, .tup []), (25, .tup []), (24, .tup []), (23, .tup []), (22, .one (lb false)), (21, .one (lb false)), (20, .tup []), (19, .tup []), (18, .tup []), (17, .tup []), (16, .tup []), (15, .tup []), (14, .tup []), (13, .one (lb false)), (12, .one (lb false)), (11, .tup []), (10, .tup [])] [] (by kernel_rfl) ?_
    refine SimI.done (by kernel_rfl) ?_
    refine SimE.thenN ?_
    refine Sim.ret ?_
    exact SimE.fin (by kernel_rfl)


-- 11: vedette/vedettelaw14.WatchPlays
def F11_e : Bool → PV × List Ob := fun r => (.one (lb r), [])
def F11_j192 (n : Nat) (a0 : (List Step)) (a1 : Point) (a2 : Int) (a3 : Rect) (i117 : Int) (r180 : (Int × Book)) (r183 : (Int × Book_vedetteref13)) (rec_l174 : Int → Bool → Int → Int → Int → Int → Int → Int → Bool → Int → Int → Int → Int → Int → Int → Bool → Int → Int → Int → Int → Int → Int → Bool → Int → Int → Int → Int → Int → Int → Bool → Int → Int → Int → Int → Int → Int → Bool → Int → Int → Int → Int → Int → Int → Bool → Int → Int → Int → Int → Int → Int → Bool → Int → Int → Int → Int → Int → Int → Option Bool) (b185 : Bool) (i186 : Int) (i187 : Int) (i188 : Int) (i189 : Int) (i190 : Int) (i191 : Int) : Option Bool :=
    (F41 n r180.2).bind fun (r193 : ((A4 Watch) × Book)) =>
    if !(A4_Watch.eqb r193.1 r183.2.L) then
      some false
    else
      (F42 n r193.2 a2 a1).bind fun (r194 : (Bool × Book)) =>
      (F43 n r183.2 a2 a1).bind fun (r195 : (Bool × Book_vedetteref13)) =>
      if !(r194.1 == r195.1) then
        some false
      else
        (F44 n r194.2 a2).bind fun (r196 : (Watch × Book)) =>
        if !(Watch.eqb r196.1 (Watch.mk b185 i186 i187 (Rect.mk i188 i189 i190 i191))) then
          some false
        else
          rec_l174 (IntKind.wrap .i64 (i117 + 1)) r195.2.L.a0.On r195.2.L.a0.Session r195.2.L.a0.Start r195.2.L.a0.Rect.X0 r195.2.L.a0.Rect.Y0 r195.2.L.a0.Rect.X1 r195.2.L.a0.Rect.Y1 r195.2.L.a1.On r195.2.L.a1.Session r195.2.L.a1.Start r195.2.L.a1.Rect.X0 r195.2.L.a1.Rect.Y0 r195.2.L.a1.Rect.X1 r195.2.L.a1.Rect.Y1 r195.2.L.a2.On r195.2.L.a2.Session r195.2.L.a2.Start r195.2.L.a2.Rect.X0 r195.2.L.a2.Rect.Y0 r195.2.L.a2.Rect.X1 r195.2.L.a2.Rect.Y1 r195.2.L.a3.On r195.2.L.a3.Session r195.2.L.a3.Start r195.2.L.a3.Rect.X0 r195.2.L.a3.Rect.Y0 r195.2.L.a3.Rect.X1 r195.2.L.a3.Rect.Y1 r196.2.l.a0.On r196.2.l.a0.Session r196.2.l.a0.Start r196.2.l.a0.Rect.X0 r196.2.l.a0.Rect.Y0 r196.2.l.a0.Rect.X1 r196.2.l.a0.Rect.Y1 r196.2.l.a1.On r196.2.l.a1.Session r196.2.l.a1.Start r196.2.l.a1.Rect.X0 r196.2.l.a1.Rect.Y0 r196.2.l.a1.Rect.X1 r196.2.l.a1.Rect.Y1 r196.2.l.a2.On r196.2.l.a2.Session r196.2.l.a2.Start r196.2.l.a2.Rect.X0 r196.2.l.a2.Rect.Y0 r196.2.l.a2.Rect.X1 r196.2.l.a2.Rect.Y1 r196.2.l.a3.On r196.2.l.a3.Session r196.2.l.a3.Start r196.2.l.a3.Rect.X0 r196.2.l.a3.Rect.Y0 r196.2.l.a3.Rect.X1 r196.2.l.a3.Rect.Y1
theorem F11_j192_ok (n : Nat) (a0 : (List Step)) (a1 : Point) (a2 : Int) (a3 : Rect) (i117 : Int) (r180 : (Int × Book)) (r183 : (Int × Book_vedetteref13)) (rec_l174 : Int → Bool → Int → Int → Int → Int → Int → Int → Bool → Int → Int → Int → Int → Int → Int → Bool → Int → Int → Int → Int → Int → Int → Bool → Int → Int → Int → Int → Int → Int → Bool → Int → Int → Int → Int → Int → Int → Bool → Int → Int → Int → Int → Int → Int → Bool → Int → Int → Int → Int → Int → Int → Bool → Int → Int → Int → Int → Int → Int → Option Bool) (m_l174 : Nat) (ih_l174 : ∀ (i117 : Int) (b118 : Bool) (i119 : Int) (i120 : Int) (i121 : Int) (i122 : Int) (i123 : Int) (i124 : Int) (b125 : Bool) (i126 : Int) (i127 : Int) (i128 : Int) (i129 : Int) (i130 : Int) (i131 : Int) (b132 : Bool) (i133 : Int) (i134 : Int) (i135 : Int) (i136 : Int) (i137 : Int) (i138 : Int) (b139 : Bool) (i140 : Int) (i141 : Int) (i142 : Int) (i143 : Int) (i144 : Int) (i145 : Int) (b146 : Bool) (i147 : Int) (i148 : Int) (i149 : Int) (i150 : Int) (i151 : Int) (i152 : Int) (b153 : Bool) (i154 : Int) (i155 : Int) (i156 : Int) (i157 : Int) (i158 : Int) (i159 : Int) (b160 : Bool) (i161 : Int) (i162 : Int) (i163 : Int) (i164 : Int) (i165 : Int) (i166 : Int) (b167 : Bool) (i168 : Int) (i169 : Int) (i170 : Int) (i171 : Int) (i172 : Int) (i173 : Int), SimL Try.prog D (n + 8) m_l174 pc11_c61 [(0, .one (vw Step.cod a0)), (2, .one (li .i64 a2)), (5, .one (.ptr 5 0)), (7, .one (.ptr 7 0)), (9, .one (.ptr 300000 0)), (10, .one (.ptr 21 0)), (11, .one (li .i64 i117))] [(5, some (.cells [li .i64 a1.X, li .i64 a1.Y])), (7, some (.cells [li .i64 a3.X0, li .i64 a3.Y0, li .i64 a3.X1, li .i64 a3.Y1])), (21, some (.cells [lb b118, li .i64 i119, li .i64 i120, li .i64 i121, li .i64 i122, li .i64 i123, li .i64 i124, lb b125, li .i64 i126, li .i64 i127, li .i64 i128, li .i64 i129, li .i64 i130, li .i64 i131, lb b132, li .i64 i133, li .i64 i134, li .i64 i135, li .i64 i136, li .i64 i137, li .i64 i138, lb b139, li .i64 i140, li .i64 i141, li .i64 i142, li .i64 i143, li .i64 i144, li .i64 i145])), (300000, some (.cells [lb b146, li .i64 i147, li .i64 i148, li .i64 i149, li .i64 i150, li .i64 i151, li .i64 i152, lb b153, li .i64 i154, li .i64 i155, li .i64 i156, li .i64 i157, li .i64 i158, li .i64 i159, lb b160, li .i64 i161, li .i64 i162, li .i64 i163, li .i64 i164, li .i64 i165, li .i64 i166, lb b167, li .i64 i168, li .i64 i169, li .i64 i170, li .i64 i171, li .i64 i172, li .i64 i173]))] (rec_l174 i117 b118 i119 i120 i121 i122 i123 i124 b125 i126 i127 i128 i129 i130 i131 b132 i133 i134 i135 i136 i137 i138 b139 i140 i141 i142 i143 i144 i145 b146 i147 i148 i149 i150 i151 i152 b153 i154 i155 i156 i157 i158 i159 b160 i161 i162 i163 i164 i165 i166 b167 i168 i169 i170 i171 i172 i173) (QB 0 (QT Try.prog D (n + 8) pc11_c67 (QF false pc11_r 0 F11_e)))) (b185 : Bool) (i186 : Int) (i187 : Int) (i188 : Int) (i189 : Int) (i190 : Int) (i191 : Int) : Sim Try.prog D (n + 8) pc11_c51 [(0, .one (vw Step.cod a0)), (2, .one (li .i64 a2)), (5, .one (.ptr 5 0)), (7, .one (.ptr 7 0)), (9, .one (.ptr 300000 0)), (10, .one (.ptr 21 0)), (11, .one (li .i64 i117)), (13, .one (.ptr 13 0))] [(5, some (.cells [li .i64 a1.X, li .i64 a1.Y])), (7, some (.cells [li .i64 a3.X0, li .i64 a3.Y0, li .i64 a3.X1, li .i64 a3.Y1])), (13, some (.cells [lb b185, li .i64 i186, li .i64 i187, li .i64 i188, li .i64 i189, li .i64 i190, li .i64 i191])), (21, some (.cells [lb r183.2.L.a0.On, li .i64 r183.2.L.a0.Session, li .i64 r183.2.L.a0.Start, li .i64 r183.2.L.a0.Rect.X0, li .i64 r183.2.L.a0.Rect.Y0, li .i64 r183.2.L.a0.Rect.X1, li .i64 r183.2.L.a0.Rect.Y1, lb r183.2.L.a1.On, li .i64 r183.2.L.a1.Session, li .i64 r183.2.L.a1.Start, li .i64 r183.2.L.a1.Rect.X0, li .i64 r183.2.L.a1.Rect.Y0, li .i64 r183.2.L.a1.Rect.X1, li .i64 r183.2.L.a1.Rect.Y1, lb r183.2.L.a2.On, li .i64 r183.2.L.a2.Session, li .i64 r183.2.L.a2.Start, li .i64 r183.2.L.a2.Rect.X0, li .i64 r183.2.L.a2.Rect.Y0, li .i64 r183.2.L.a2.Rect.X1, li .i64 r183.2.L.a2.Rect.Y1, lb r183.2.L.a3.On, li .i64 r183.2.L.a3.Session, li .i64 r183.2.L.a3.Start, li .i64 r183.2.L.a3.Rect.X0, li .i64 r183.2.L.a3.Rect.Y0, li .i64 r183.2.L.a3.Rect.X1, li .i64 r183.2.L.a3.Rect.Y1])), (300000, some (.cells [lb r180.2.l.a0.On, li .i64 r180.2.l.a0.Session, li .i64 r180.2.l.a0.Start, li .i64 r180.2.l.a0.Rect.X0, li .i64 r180.2.l.a0.Rect.Y0, li .i64 r180.2.l.a0.Rect.X1, li .i64 r180.2.l.a0.Rect.Y1, lb r180.2.l.a1.On, li .i64 r180.2.l.a1.Session, li .i64 r180.2.l.a1.Start, li .i64 r180.2.l.a1.Rect.X0, li .i64 r180.2.l.a1.Rect.Y0, li .i64 r180.2.l.a1.Rect.X1, li .i64 r180.2.l.a1.Rect.Y1, lb r180.2.l.a2.On, li .i64 r180.2.l.a2.Session, li .i64 r180.2.l.a2.Start, li .i64 r180.2.l.a2.Rect.X0, li .i64 r180.2.l.a2.Rect.Y0, li .i64 r180.2.l.a2.Rect.X1, li .i64 r180.2.l.a2.Rect.Y1, lb r180.2.l.a3.On, li .i64 r180.2.l.a3.Session, li .i64 r180.2.l.a3.Start, li .i64 r180.2.l.a3.Rect.X0, li .i64 r180.2.l.a3.Rect.Y0, li .i64 r180.2.l.a3.Rect.X1, li .i64 r180.2.l.a3.Rect.Y1]))] (F11_j192 n a0 a1 a2 a3 i117 r180 r183 rec_l174 b185 i186 i187 i188 i189 i190 i191) (QB 1 (QT Try.prog D (n + 8) pc11_c59 (QL Try.prog D (n + 8) m_l174 pc11_c61 (QB 0 (QT Try.prog D (n + 8) pc11_c67 (QF false pc11_r 0 F11_e)))))) := by
    unfold F11_j192
    refine Sim.seq ?_
    refine Sim.region [(0, .one (vw Step.cod a0)), (2, .one (li .i64 a2)), (5, .one (.ptr 5 0)), (7, .one (.ptr 7 0)), (9, .one (.ptr 300000 0)), (10, .one (.ptr 21 0)), (11, .one (li .i64 i117)), (13, .one (.ptr 13 0))] [(5, some (.cells [li .i64 a1.X, li .i64 a1.Y])), (7, some (.cells [li .i64 a3.X0, li .i64 a3.Y0, li .i64 a3.X1, li .i64 a3.Y1])), (13, some (.cells [lb b185, li .i64 i186, li .i64 i187, li .i64 i188, li .i64 i189, li .i64 i190, li .i64 i191])), (21, some (.cells [lb r183.2.L.a0.On, li .i64 r183.2.L.a0.Session, li .i64 r183.2.L.a0.Start, li .i64 r183.2.L.a0.Rect.X0, li .i64 r183.2.L.a0.Rect.Y0, li .i64 r183.2.L.a0.Rect.X1, li .i64 r183.2.L.a0.Rect.Y1, lb r183.2.L.a1.On, li .i64 r183.2.L.a1.Session, li .i64 r183.2.L.a1.Start, li .i64 r183.2.L.a1.Rect.X0, li .i64 r183.2.L.a1.Rect.Y0, li .i64 r183.2.L.a1.Rect.X1, li .i64 r183.2.L.a1.Rect.Y1, lb r183.2.L.a2.On, li .i64 r183.2.L.a2.Session, li .i64 r183.2.L.a2.Start, li .i64 r183.2.L.a2.Rect.X0, li .i64 r183.2.L.a2.Rect.Y0, li .i64 r183.2.L.a2.Rect.X1, li .i64 r183.2.L.a2.Rect.Y1, lb r183.2.L.a3.On, li .i64 r183.2.L.a3.Session, li .i64 r183.2.L.a3.Start, li .i64 r183.2.L.a3.Rect.X0, li .i64 r183.2.L.a3.Rect.Y0, li .i64 r183.2.L.a3.Rect.X1, li .i64 r183.2.L.a3.Rect.Y1])), (300000, some (.cells [lb r180.2.l.a0.On, li .i64 r180.2.l.a0.Session, li .i64 r180.2.l.a0.Start, li .i64 r180.2.l.a0.Rect.X0, li .i64 r180.2.l.a0.Rect.Y0, li .i64 r180.2.l.a0.Rect.X1, li .i64 r180.2.l.a0.Rect.Y1, lb r180.2.l.a1.On, li .i64 r180.2.l.a1.Session, li .i64 r180.2.l.a1.Start, li .i64 r180.2.l.a1.Rect.X0, li .i64 r180.2.l.a1.Rect.Y0, li .i64 r180.2.l.a1.Rect.X1, li .i64 r180.2.l.a1.Rect.Y1, lb r180.2.l.a2.On, li .i64 r180.2.l.a2.Session, li .i64 r180.2.l.a2.Start, li .i64 r180.2.l.a2.Rect.X0, li .i64 r180.2.l.a2.Rect.Y0, li .i64 r180.2.l.a2.Rect.X1, li .i64 r180.2.l.a2.Rect.Y1, lb r180.2.l.a3.On, li .i64 r180.2.l.a3.Session, li .i64 r180.2.l.a3.Start, li .i64 r180.2.l.a3.Rect.X0, li .i64 r180.2.l.a3.Rect.Y0, li .i64 r180.2.l.a3.Rect.X1, li .i64 r180.2.l.a3.Rect.Y1]))] (by kernel_rfl) ?_
    refine SimI.run 1 [(78, .one (.ptr 300000 0))] [] (by kernel_rfl) ?_
    refine SimI.bind (og := F41 n r180.2) { dst := some 79, op := POp.call true [[]] 41 [Operand.tmp 78], guard := none, hints := [(78, Hint.at_ 300000 0)] } (fun r193 => [(79, .agg [lb r193.1.a0.On, li .i64 r193.1.a0.Session, li .i64 r193.1.a0.Start, li .i64 r193.1.a0.Rect.X0, li .i64 r193.1.a0.Rect.Y0, li .i64 r193.1.a0.Rect.X1, li .i64 r193.1.a0.Rect.Y1, lb r193.1.a1.On, li .i64 r193.1.a1.Session, li .i64 r193.1.a1.Start, li .i64 r193.1.a1.Rect.X0, li .i64 r193.1.a1.Rect.Y0, li .i64 r193.1.a1.Rect.X1, li .i64 r193.1.a1.Rect.Y1, lb r193.1.a2.On, li .i64 r193.1.a2.Session, li .i64 r193.1.a2.Start, li .i64 r193.1.a2.Rect.X0, li .i64 r193.1.a2.Rect.Y0, li .i64 r193.1.a2.Rect.X1, li .i64 r193.1.a2.Rect.Y1, lb r193.1.a3.On, li .i64 r193.1.a3.Session, li .i64 r193.1.a3.Start, li .i64 r193.1.a3.Rect.X0, li .i64 r193.1.a3.Rect.Y0, li .i64 r193.1.a3.Rect.X1, li .i64 r193.1.a3.Rect.Y1])]) (fun r193 => [(300000, some (.cells [lb r193.2.l.a0.On, li .i64 r193.2.l.a0.Session, li .i64 r193.2.l.a0.Start, li .i64 r193.2.l.a0.Rect.X0, li .i64 r193.2.l.a0.Rect.Y0, li .i64 r193.2.l.a0.Rect.X1, li .i64 r193.2.l.a0.Rect.Y1, lb r193.2.l.a1.On, li .i64 r193.2.l.a1.Session, li .i64 r193.2.l.a1.Start, li .i64 r193.2.l.a1.Rect.X0, li .i64 r193.2.l.a1.Rect.Y0, li .i64 r193.2.l.a1.Rect.X1, li .i64 r193.2.l.a1.Rect.Y1, lb r193.2.l.a2.On, li .i64 r193.2.l.a2.Session, li .i64 r193.2.l.a2.Start, li .i64 r193.2.l.a2.Rect.X0, li .i64 r193.2.l.a2.Rect.Y0, li .i64 r193.2.l.a2.Rect.X1, li .i64 r193.2.l.a2.Rect.Y1, lb r193.2.l.a3.On, li .i64 r193.2.l.a3.Session, li .i64 r193.2.l.a3.Start, li .i64 r193.2.l.a3.Rect.X0, li .i64 r193.2.l.a3.Rect.Y0, li .i64 r193.2.l.a3.Rect.X1, li .i64 r193.2.l.a3.Rect.Y1]))]) (by kernel_rfl) (fun r193 hr => pOp_eff (by kernel_rfl) (by kernel_rfl) (eff_callp (ARGS := [.one (.ptr 300000 0)]) (ARGS' := [.one (.ptr 1000000 0)]) (ks := [300000]) (os := [[lb r180.2.l.a0.On, li .i64 r180.2.l.a0.Session, li .i64 r180.2.l.a0.Start, li .i64 r180.2.l.a0.Rect.X0, li .i64 r180.2.l.a0.Rect.Y0, li .i64 r180.2.l.a0.Rect.X1, li .i64 r180.2.l.a0.Rect.Y1, lb r180.2.l.a1.On, li .i64 r180.2.l.a1.Session, li .i64 r180.2.l.a1.Start, li .i64 r180.2.l.a1.Rect.X0, li .i64 r180.2.l.a1.Rect.Y0, li .i64 r180.2.l.a1.Rect.X1, li .i64 r180.2.l.a1.Rect.Y1, lb r180.2.l.a2.On, li .i64 r180.2.l.a2.Session, li .i64 r180.2.l.a2.Start, li .i64 r180.2.l.a2.Rect.X0, li .i64 r180.2.l.a2.Rect.Y0, li .i64 r180.2.l.a2.Rect.X1, li .i64 r180.2.l.a2.Rect.Y1, lb r180.2.l.a3.On, li .i64 r180.2.l.a3.Session, li .i64 r180.2.l.a3.Start, li .i64 r180.2.l.a3.Rect.X0, li .i64 r180.2.l.a3.Rect.Y0, li .i64 r180.2.l.a3.Rect.X1, li .i64 r180.2.l.a3.Rect.Y1]]) (os' := [[lb r193.2.l.a0.On, li .i64 r193.2.l.a0.Session, li .i64 r193.2.l.a0.Start, li .i64 r193.2.l.a0.Rect.X0, li .i64 r193.2.l.a0.Rect.Y0, li .i64 r193.2.l.a0.Rect.X1, li .i64 r193.2.l.a0.Rect.Y1, lb r193.2.l.a1.On, li .i64 r193.2.l.a1.Session, li .i64 r193.2.l.a1.Start, li .i64 r193.2.l.a1.Rect.X0, li .i64 r193.2.l.a1.Rect.Y0, li .i64 r193.2.l.a1.Rect.X1, li .i64 r193.2.l.a1.Rect.Y1, lb r193.2.l.a2.On, li .i64 r193.2.l.a2.Session, li .i64 r193.2.l.a2.Start, li .i64 r193.2.l.a2.Rect.X0, li .i64 r193.2.l.a2.Rect.Y0, li .i64 r193.2.l.a2.Rect.X1, li .i64 r193.2.l.a2.Rect.Y1, lb r193.2.l.a3.On, li .i64 r193.2.l.a3.Session, li .i64 r193.2.l.a3.Start, li .i64 r193.2.l.a3.Rect.X0, li .i64 r193.2.l.a3.Rect.Y0, li .i64 r193.2.l.a3.Rect.X1, li .i64 r193.2.l.a3.Rect.Y1]]) (by kernel_rfl) (args_ptr (by kernel_rfl) args_nil) rfl (by kernel_rfl) (F41_ok n r180.2 r193 hr) (by kernel_rfl) (by kernel_rfl))) (fun r193 => ?_)
    refine SimI.run 4 [(83, .agg [lb r183.2.L.a0.On, li .i64 r183.2.L.a0.Session, li .i64 r183.2.L.a0.Start, li .i64 r183.2.L.a0.Rect.X0, li .i64 r183.2.L.a0.Rect.Y0, li .i64 r183.2.L.a0.Rect.X1, li .i64 r183.2.L.a0.Rect.Y1, lb r183.2.L.a1.On, li .i64 r183.2.L.a1.Session, li .i64 r183.2.L.a1.Start, li .i64 r183.2.L.a1.Rect.X0, li .i64 r183.2.L.a1.Rect.Y0, li .i64 r183.2.L.a1.Rect.X1, li .i64 r183.2.L.a1.Rect.Y1, lb r183.2.L.a2.On, li .i64 r183.2.L.a2.Session, li .i64 r183.2.L.a2.Start, li .i64 r183.2.L.a2.Rect.X0, li .i64 r183.2.L.a2.Rect.Y0, li .i64 r183.2.L.a2.Rect.X1, li .i64 r183.2.L.a2.Rect.Y1, lb r183.2.L.a3.On, li .i64 r183.2.L.a3.Session, li .i64 r183.2.L.a3.Start, li .i64 r183.2.L.a3.Rect.X0, li .i64 r183.2.L.a3.Rect.Y0, li .i64 r183.2.L.a3.Rect.X1, li .i64 r183.2.L.a3.Rect.Y1]), (82, .one (.ptr 21 0)), (81, .one (.ptr 21 0)), (80, .one (.ptr 21 0))] [] (by kernel_rfl) ?_
    refine SimI.step { dst := some 84, op := POp.prim (Prim.bin BinOp.neq 69 false false) [Operand.tmp 79, Operand.tmp 83], guard := none, hints := [(79, Hint.imm), (83, Hint.imm)] } [(84, .one (lb (!(A4_Watch.eqb r193.1 r183.2.L))))] [] (by kernel_rfl) (pOp_eff (by kernel_rfl) (by kernel_rfl) (eff_prim (by kernel_rfl) (A4_Watch_eqn r193.1 r183.2.L _ _))) ?_
    refine SimI.run 1 [(85, .one (lb (!(A4_Watch.eqb r193.1 r183.2.L))))] [] (by kernel_rfl) ?_
    refine SimI.split 85 (!(A4_Watch.eqb r193.1 r183.2.L)) (by kernel_rfl) ?_ ?_
    · refine SimI.run 17 [(102, .one (lb true)), (101, .tup []), (100, .tup []), (99, .tup []), (98, .tup []), (97, .tup []), (96, .one (lb true)), (95, .one (lb true)), (94, .tup []), (93, .tup []), (92, .tup []), (91, .tup []), (90, .tup []), (89, .tup []), (88, .tup []), (87, .tup []), (86, .tup [])] [] (by kernel_rfl) ?_
      refine SimI.done (by kernel_rfl) ?_
      refine SimE.thenN ?_
      refine Sim.condT (by kernel_rfl) ?_
      refine Sim.seq ?_
      refine Sim.region0 ?_
      refine SimI.run 1 [(8, .one (lb false))] [] (by kernel_rfl) ?_
      refine SimI.done (by kernel_rfl) ?_
      refine SimE.thenN ?_
      refine Sim.ret ?_
      refine SimE.blockR ?_
      refine SimE.thenR ?_
      refine SimE.loopR ?_
      refine SimE.blockR ?_
      refine SimE.thenR ?_
      exact SimE.fin (by kernel_rfl)
    · refine SimI.run 3 [(88, .agg [li .i64 a1.X, li .i64 a1.Y]), (87, .one (li .i64 a2)), (86, .one (.ptr 300000 0))] [] (by kernel_rfl) ?_
      refine SimI.bind (og := F42 n r193.2 a2 a1) { dst := some 89, op := POp.call true [[], [], []] 42 [Operand.tmp 86, Operand.tmp 87, Operand.tmp 88], guard := some (85, false), hints := [(86, Hint.at_ 300000 0), (87, Hint.imm), (88, Hint.imm)] } (fun r194 => [(89, .one (lb r194.1))]) (fun r194 => [(300000, some (.cells [lb r194.2.l.a0.On, li .i64 r194.2.l.a0.Session, li .i64 r194.2.l.a0.Start, li .i64 r194.2.l.a0.Rect.X0, li .i64 r194.2.l.a0.Rect.Y0, li .i64 r194.2.l.a0.Rect.X1, li .i64 r194.2.l.a0.Rect.Y1, lb r194.2.l.a1.On, li .i64 r194.2.l.a1.Session, li .i64 r194.2.l.a1.Start, li .i64 r194.2.l.a1.Rect.X0, li .i64 r194.2.l.a1.Rect.Y0, li .i64 r194.2.l.a1.Rect.X1, li .i64 r194.2.l.a1.Rect.Y1, lb r194.2.l.a2.On, li .i64 r194.2.l.a2.Session, li .i64 r194.2.l.a2.Start, li .i64 r194.2.l.a2.Rect.X0, li .i64 r194.2.l.a2.Rect.Y0, li .i64 r194.2.l.a2.Rect.X1, li .i64 r194.2.l.a2.Rect.Y1, lb r194.2.l.a3.On, li .i64 r194.2.l.a3.Session, li .i64 r194.2.l.a3.Start, li .i64 r194.2.l.a3.Rect.X0, li .i64 r194.2.l.a3.Rect.Y0, li .i64 r194.2.l.a3.Rect.X1, li .i64 r194.2.l.a3.Rect.Y1]))]) (by kernel_rfl) (fun r194 hr => pOp_eff (by kernel_rfl) (by kernel_rfl) (eff_callp (ARGS := [.one (.ptr 300000 0), .one (li .i64 a2), .agg [li .i64 a1.X, li .i64 a1.Y]]) (ARGS' := [.one (.ptr 1000000 0), .one (li .i64 a2), .agg [li .i64 a1.X, li .i64 a1.Y]]) (ks := [300000]) (os := [[lb r193.2.l.a0.On, li .i64 r193.2.l.a0.Session, li .i64 r193.2.l.a0.Start, li .i64 r193.2.l.a0.Rect.X0, li .i64 r193.2.l.a0.Rect.Y0, li .i64 r193.2.l.a0.Rect.X1, li .i64 r193.2.l.a0.Rect.Y1, lb r193.2.l.a1.On, li .i64 r193.2.l.a1.Session, li .i64 r193.2.l.a1.Start, li .i64 r193.2.l.a1.Rect.X0, li .i64 r193.2.l.a1.Rect.Y0, li .i64 r193.2.l.a1.Rect.X1, li .i64 r193.2.l.a1.Rect.Y1, lb r193.2.l.a2.On, li .i64 r193.2.l.a2.Session, li .i64 r193.2.l.a2.Start, li .i64 r193.2.l.a2.Rect.X0, li .i64 r193.2.l.a2.Rect.Y0, li .i64 r193.2.l.a2.Rect.X1, li .i64 r193.2.l.a2.Rect.Y1, lb r193.2.l.a3.On, li .i64 r193.2.l.a3.Session, li .i64 r193.2.l.a3.Start, li .i64 r193.2.l.a3.Rect.X0, li .i64 r193.2.l.a3.Rect.Y0, li .i64 r193.2.l.a3.Rect.X1, li .i64 r193.2.l.a3.Rect.Y1]]) (os' := [[lb r194.2.l.a0.On, li .i64 r194.2.l.a0.Session, li .i64 r194.2.l.a0.Start, li .i64 r194.2.l.a0.Rect.X0, li .i64 r194.2.l.a0.Rect.Y0, li .i64 r194.2.l.a0.Rect.X1, li .i64 r194.2.l.a0.Rect.Y1, lb r194.2.l.a1.On, li .i64 r194.2.l.a1.Session, li .i64 r194.2.l.a1.Start, li .i64 r194.2.l.a1.Rect.X0, li .i64 r194.2.l.a1.Rect.Y0, li .i64 r194.2.l.a1.Rect.X1, li .i64 r194.2.l.a1.Rect.Y1, lb r194.2.l.a2.On, li .i64 r194.2.l.a2.Session, li .i64 r194.2.l.a2.Start, li .i64 r194.2.l.a2.Rect.X0, li .i64 r194.2.l.a2.Rect.Y0, li .i64 r194.2.l.a2.Rect.X1, li .i64 r194.2.l.a2.Rect.Y1, lb r194.2.l.a3.On, li .i64 r194.2.l.a3.Session, li .i64 r194.2.l.a3.Start, li .i64 r194.2.l.a3.Rect.X0, li .i64 r194.2.l.a3.Rect.Y0, li .i64 r194.2.l.a3.Rect.X1, li .i64 r194.2.l.a3.Rect.Y1]]) (by kernel_rfl) (args_ptr (by kernel_rfl) (args_clean (by kernel_rfl) (args_clean (by kernel_rfl) args_nil))) rfl (by kernel_rfl) (F42_ok n r193.2 a2 a1 r194 hr) (by kernel_rfl) (by kernel_rfl))) (fun r194 => ?_)
      refine SimI.run 3 [(92, .agg [li .i64 a1.X, li .i64 a1.Y]), (91, .one (li .i64 a2)), (90, .one (.ptr 21 0))] [] (by kernel_rfl) ?_
      refine SimI.bind (og := F43 n r183.2 a2 a1) { dst := some 93, op := POp.call true [[], [], []] 43 [Operand.tmp 90, Operand.tmp 91, Operand.tmp 92], guard := some (85, false), hints := [(90, Hint.at_ 21 0), (91, Hint.imm), (92, Hint.imm)] } (fun r195 => [(93, .one (lb r195.1))]) (fun r195 => [(21, some (.cells [lb r195.2.L.a0.On, li .i64 r195.2.L.a0.Session, li .i64 r195.2.L.a0.Start, li .i64 r195.2.L.a0.Rect.X0, li .i64 r195.2.L.a0.Rect.Y0, li .i64 r195.2.L.a0.Rect.X1, li .i64 r195.2.L.a0.Rect.Y1, lb r195.2.L.a1.On, li .i64 r195.2.L.a1.Session, li .i64 r195.2.L.a1.Start, li .i64 r195.2.L.a1.Rect.X0, li .i64 r195.2.L.a1.Rect.Y0, li .i64 r195.2.L.a1.Rect.X1, li .i64 r195.2.L.a1.Rect.Y1, lb r195.2.L.a2.On, li .i64 r195.2.L.a2.Session, li .i64 r195.2.L.a2.Start, li .i64 r195.2.L.a2.Rect.X0, li .i64 r195.2.L.a2.Rect.Y0, li .i64 r195.2.L.a2.Rect.X1, li .i64 r195.2.L.a2.Rect.Y1, lb r195.2.L.a3.On, li .i64 r195.2.L.a3.Session, li .i64 r195.2.L.a3.Start, li .i64 r195.2.L.a3.Rect.X0, li .i64 r195.2.L.a3.Rect.Y0, li .i64 r195.2.L.a3.Rect.X1, li .i64 r195.2.L.a3.Rect.Y1]))]) (by kernel_rfl) (fun r195 hr => pOp_eff (by kernel_rfl) (by kernel_rfl) (eff_callp (ARGS := [.one (.ptr 21 0), .one (li .i64 a2), .agg [li .i64 a1.X, li .i64 a1.Y]]) (ARGS' := [.one (.ptr 1000000 0), .one (li .i64 a2), .agg [li .i64 a1.X, li .i64 a1.Y]]) (ks := [21]) (os := [[lb r183.2.L.a0.On, li .i64 r183.2.L.a0.Session, li .i64 r183.2.L.a0.Start, li .i64 r183.2.L.a0.Rect.X0, li .i64 r183.2.L.a0.Rect.Y0, li .i64 r183.2.L.a0.Rect.X1, li .i64 r183.2.L.a0.Rect.Y1, lb r183.2.L.a1.On, li .i64 r183.2.L.a1.Session, li .i64 r183.2.L.a1.Start, li .i64 r183.2.L.a1.Rect.X0, li .i64 r183.2.L.a1.Rect.Y0, li .i64 r183.2.L.a1.Rect.X1, li .i64 r183.2.L.a1.Rect.Y1, lb r183.2.L.a2.On, li .i64 r183.2.L.a2.Session, li .i64 r183.2.L.a2.Start, li .i64 r183.2.L.a2.Rect.X0, li .i64 r183.2.L.a2.Rect.Y0, li .i64 r183.2.L.a2.Rect.X1, li .i64 r183.2.L.a2.Rect.Y1, lb r183.2.L.a3.On, li .i64 r183.2.L.a3.Session, li .i64 r183.2.L.a3.Start, li .i64 r183.2.L.a3.Rect.X0, li .i64 r183.2.L.a3.Rect.Y0, li .i64 r183.2.L.a3.Rect.X1, li .i64 r183.2.L.a3.Rect.Y1]]) (os' := [[lb r195.2.L.a0.On, li .i64 r195.2.L.a0.Session, li .i64 r195.2.L.a0.Start, li .i64 r195.2.L.a0.Rect.X0, li .i64 r195.2.L.a0.Rect.Y0, li .i64 r195.2.L.a0.Rect.X1, li .i64 r195.2.L.a0.Rect.Y1, lb r195.2.L.a1.On, li .i64 r195.2.L.a1.Session, li .i64 r195.2.L.a1.Start, li .i64 r195.2.L.a1.Rect.X0, li .i64 r195.2.L.a1.Rect.Y0, li .i64 r195.2.L.a1.Rect.X1, li .i64 r195.2.L.a1.Rect.Y1, lb r195.2.L.a2.On, li .i64 r195.2.L.a2.Session, li .i64 r195.2.L.a2.Start, li .i64 r195.2.L.a2.Rect.X0, li .i64 r195.2.L.a2.Rect.Y0, li .i64 r195.2.L.a2.Rect.X1, li .i64 r195.2.L.a2.Rect.Y1, lb r195.2.L.a3.On, li .i64 r195.2.L.a3.Session, li .i64 r195.2.L.a3.Start, li .i64 r195.2.L.a3.Rect.X0, li .i64 r195.2.L.a3.Rect.Y0, li .i64 r195.2.L.a3.Rect.X1, li .i64 r195.2.L.a3.Rect.Y1]]) (by kernel_rfl) (args_ptr (by kernel_rfl) (args_clean (by kernel_rfl) (args_clean (by kernel_rfl) args_nil))) rfl (by kernel_rfl) (F43_ok n r183.2 a2 a1 r195 hr) (by kernel_rfl) (by kernel_rfl))) (fun r195 => ?_)
      refine SimI.run 3 [(96, .one (lb (!(r194.1 == r195.1)))), (95, .one (lb (!(r194.1 == r195.1)))), (94, .one (lb (!(r194.1 == r195.1))))] [] (by kernel_rfl) ?_
      refine SimI.split 96 (!(r194.1 == r195.1)) (by kernel_rfl) ?_ ?_
      · refine SimI.run 6 [(102, .one (lb true)), (101, .tup []), (100, .tup []), (99, .tup []), (98, .tup []), (97, .tup [])] [] (by kernel_rfl) ?_
        refine SimI.done (by kernel_rfl) ?_
        refine SimE.thenN ?_
        refine Sim.condT (by kernel_rfl) ?_
        refine Sim.seq ?_
        refine Sim.region0 ?_
        refine SimI.run 1 [(8, .one (lb false))] [] (by kernel_rfl) ?_
        refine SimI.done (by kernel_rfl) ?_
        refine SimE.thenN ?_
        refine Sim.ret ?_
        refine SimE.blockR ?_
        refine SimE.thenR ?_
        refine SimE.loopR ?_
        refine SimE.blockR ?_
        refine SimE.thenR ?_
        exact SimE.fin (by kernel_rfl)
      · refine SimI.run 2 [(98, .one (li .i64 a2)), (97, .one (.ptr 300000 0))] [] (by kernel_rfl) ?_
        refine SimI.bind (og := F44 n r194.2 a2) { dst := some 99, op := POp.call true [[], []] 44 [Operand.tmp 97, Operand.tmp 98], guard := some (96, false), hints := [(97, Hint.at_ 300000 0), (98, Hint.imm)] } (fun r196 => [(99, .agg [lb r196.1.On, li .i64 r196.1.Session, li .i64 r196.1.Start, li .i64 r196.1.Rect.X0, li .i64 r196.1.Rect.Y0, li .i64 r196.1.Rect.X1, li .i64 r196.1.Rect.Y1])]) (fun r196 => [(300000, some (.cells [lb r196.2.l.a0.On, li .i64 r196.2.l.a0.Session, li .i64 r196.2.l.a0.Start, li .i64 r196.2.l.a0.Rect.X0, li .i64 r196.2.l.a0.Rect.Y0, li .i64 r196.2.l.a0.Rect.X1, li .i64 r196.2.l.a0.Rect.Y1, lb r196.2.l.a1.On, li .i64 r196.2.l.a1.Session, li .i64 r196.2.l.a1.Start, li .i64 r196.2.l.a1.Rect.X0, li .i64 r196.2.l.a1.Rect.Y0, li .i64 r196.2.l.a1.Rect.X1, li .i64 r196.2.l.a1.Rect.Y1, lb r196.2.l.a2.On, li .i64 r196.2.l.a2.Session, li .i64 r196.2.l.a2.Start, li .i64 r196.2.l.a2.Rect.X0, li .i64 r196.2.l.a2.Rect.Y0, li .i64 r196.2.l.a2.Rect.X1, li .i64 r196.2.l.a2.Rect.Y1, lb r196.2.l.a3.On, li .i64 r196.2.l.a3.Session, li .i64 r196.2.l.a3.Start, li .i64 r196.2.l.a3.Rect.X0, li .i64 r196.2.l.a3.Rect.Y0, li .i64 r196.2.l.a3.Rect.X1, li .i64 r196.2.l.a3.Rect.Y1]))]) (by kernel_rfl) (fun r196 hr => pOp_eff (by kernel_rfl) (by kernel_rfl) (eff_callp (ARGS := [.one (.ptr 300000 0), .one (li .i64 a2)]) (ARGS' := [.one (.ptr 1000000 0), .one (li .i64 a2)]) (ks := [300000]) (os := [[lb r194.2.l.a0.On, li .i64 r194.2.l.a0.Session, li .i64 r194.2.l.a0.Start, li .i64 r194.2.l.a0.Rect.X0, li .i64 r194.2.l.a0.Rect.Y0, li .i64 r194.2.l.a0.Rect.X1, li .i64 r194.2.l.a0.Rect.Y1, lb r194.2.l.a1.On, li .i64 r194.2.l.a1.Session, li .i64 r194.2.l.a1.Start, li .i64 r194.2.l.a1.Rect.X0, li .i64 r194.2.l.a1.Rect.Y0, li .i64 r194.2.l.a1.Rect.X1, li .i64 r194.2.l.a1.Rect.Y1, lb r194.2.l.a2.On, li .i64 r194.2.l.a2.Session, li .i64 r194.2.l.a2.Start, li .i64 r194.2.l.a2.Rect.X0, li .i64 r194.2.l.a2.Rect.Y0, li .i64 r194.2.l.a2.Rect.X1, li .i64 r194.2.l.a2.Rect.Y1, lb r194.2.l.a3.On, li .i64 r194.2.l.a3.Session, li .i64 r194.2.l.a3.Start, li .i64 r194.2.l.a3.Rect.X0, li .i64 r194.2.l.a3.Rect.Y0, li .i64 r194.2.l.a3.Rect.X1, li .i64 r194.2.l.a3.Rect.Y1]]) (os' := [[lb r196.2.l.a0.On, li .i64 r196.2.l.a0.Session, li .i64 r196.2.l.a0.Start, li .i64 r196.2.l.a0.Rect.X0, li .i64 r196.2.l.a0.Rect.Y0, li .i64 r196.2.l.a0.Rect.X1, li .i64 r196.2.l.a0.Rect.Y1, lb r196.2.l.a1.On, li .i64 r196.2.l.a1.Session, li .i64 r196.2.l.a1.Start, li .i64 r196.2.l.a1.Rect.X0, li .i64 r196.2.l.a1.Rect.Y0, li .i64 r196.2.l.a1.Rect.X1, li .i64 r196.2.l.a1.Rect.Y1, lb r196.2.l.a2.On, li .i64 r196.2.l.a2.Session, li .i64 r196.2.l.a2.Start, li .i64 r196.2.l.a2.Rect.X0, li .i64 r196.2.l.a2.Rect.Y0, li .i64 r196.2.l.a2.Rect.X1, li .i64 r196.2.l.a2.Rect.Y1, lb r196.2.l.a3.On, li .i64 r196.2.l.a3.Session, li .i64 r196.2.l.a3.Start, li .i64 r196.2.l.a3.Rect.X0, li .i64 r196.2.l.a3.Rect.Y0, li .i64 r196.2.l.a3.Rect.X1, li .i64 r196.2.l.a3.Rect.Y1]]) (by kernel_rfl) (args_ptr (by kernel_rfl) (args_clean (by kernel_rfl) args_nil)) rfl (by kernel_rfl) (F44_ok n r194.2 a2 r196 hr) (by kernel_rfl) (by kernel_rfl))) (fun r196 => ?_)
        refine SimI.run 1 [(100, .agg [lb b185, li .i64 i186, li .i64 i187, li .i64 i188, li .i64 i189, li .i64 i190, li .i64 i191])] [] (by kernel_rfl) ?_
        refine SimI.step { dst := some 101, op := POp.prim (Prim.bin BinOp.neq 68 false false) [Operand.tmp 99, Operand.tmp 100], guard := some (96, false), hints := [(99, Hint.imm), (100, Hint.imm)] } [(101, .one (lb (!(Watch.eqb r196.1 (Watch.mk b185 i186 i187 (Rect.mk i188 i189 i190 i191))))))] [] (by kernel_rfl) (pOp_eff (by kernel_rfl) (by kernel_rfl) (eff_prim (by kernel_rfl) (Watch_eqn r196.1 (Watch.mk b185 i186 i187 (Rect.mk i188 i189 i190 i191)) _ _))) ?_
        refine SimI.run 1 [(102, .one (lb (!(Watch.eqb r196.1 (Watch.mk b185 i186 i187 (Rect.mk i188 i189 i190 i191))))))] [] (by kernel_rfl) ?_
        refine SimI.done (by kernel_rfl) ?_
        refine SimE.thenN ?_
        refine Sim.cond (!(Watch.eqb r196.1 (Watch.mk b185 i186 i187 (Rect.mk i188 i189 i190 i191)))) (by kernel_rfl) ?_ ?_
        · refine Sim.seq ?_
          refine Sim.region0 ?_
          refine SimI.run 1 [(8, .one (lb false))] [] (by kernel_rfl) ?_
          refine SimI.done (by kernel_rfl) ?_
          refine SimE.thenN ?_
          refine Sim.ret ?_
          refine SimE.blockR ?_
          refine SimE.thenR ?_
          refine SimE.loopR ?_
          refine SimE.blockR ?_
          refine SimE.thenR ?_
          exact SimE.fin (by kernel_rfl)
        · refine Sim.skip ?_
          refine SimE.blockN ?_
          refine SimE.thenN ?_
          refine Sim.region0 ?_
          refine SimI.run 3 [(11, .one (li .i64 (IntKind.wrap .i64 (i117 + 1)))), (27, .one (li .i64 (IntKind.wrap .i64 (i117 + 1)))), (26, .one (li .i64 i117))] [] (by kernel_rfl) ?_
          refine SimI.done (by kernel_rfl) ?_
          refine SimE.loopN ?_
          refine SimL.pre (ts := [0, 2, 5, 7, 9, 10, 11]) (os := [5, 7, 13, 21, 300000]) (ow := []) [(0, .one (vw Step.cod a0)), (2, .one (li .i64 a2)), (5, .one (.ptr 5 0)), (7, .one (.ptr 7 0)), (9, .one (.ptr 300000 0)), (10, .one (.ptr 21 0)), (11, .one (li .i64 (IntKind.wrap .i64 (i117 + 1))))] [(5, some (.cells [li .i64 a1.X, li .i64 a1.Y])), (7, some (.cells [li .i64 a3.X0, li .i64 a3.Y0, li .i64 a3.X1, li .i64 a3.Y1])), (21, some (.cells [lb r195.2.L.a0.On, li .i64 r195.2.L.a0.Session, li .i64 r195.2.L.a0.Start, li .i64 r195.2.L.a0.Rect.X0, li .i64 r195.2.L.a0.Rect.Y0, li .i64 r195.2.L.a0.Rect.X1, li .i64 r195.2.L.a0.Rect.Y1, lb r195.2.L.a1.On, li .i64 r195.2.L.a1.Session, li .i64 r195.2.L.a1.Start, li .i64 r195.2.L.a1.Rect.X0, li .i64 r195.2.L.a1.Rect.Y0, li .i64 r195.2.L.a1.Rect.X1, li .i64 r195.2.L.a1.Rect.Y1, lb r195.2.L.a2.On, li .i64 r195.2.L.a2.Session, li .i64 r195.2.L.a2.Start, li .i64 r195.2.L.a2.Rect.X0, li .i64 r195.2.L.a2.Rect.Y0, li .i64 r195.2.L.a2.Rect.X1, li .i64 r195.2.L.a2.Rect.Y1, lb r195.2.L.a3.On, li .i64 r195.2.L.a3.Session, li .i64 r195.2.L.a3.Start, li .i64 r195.2.L.a3.Rect.X0, li .i64 r195.2.L.a3.Rect.Y0, li .i64 r195.2.L.a3.Rect.X1, li .i64 r195.2.L.a3.Rect.Y1])), (300000, some (.cells [lb r196.2.l.a0.On, li .i64 r196.2.l.a0.Session, li .i64 r196.2.l.a0.Start, li .i64 r196.2.l.a0.Rect.X0, li .i64 r196.2.l.a0.Rect.Y0, li .i64 r196.2.l.a0.Rect.X1, li .i64 r196.2.l.a0.Rect.Y1, lb r196.2.l.a1.On, li .i64 r196.2.l.a1.Session, li .i64 r196.2.l.a1.Start, li .i64 r196.2.l.a1.Rect.X0, li .i64 r196.2.l.a1.Rect.Y0, li .i64 r196.2.l.a1.Rect.X1, li .i64 r196.2.l.a1.Rect.Y1, lb r196.2.l.a2.On, li .i64 r196.2.l.a2.Session, li .i64 r196.2.l.a2.Start, li .i64 r196.2.l.a2.Rect.X0, li .i64 r196.2.l.a2.Rect.Y0, li .i64 r196.2.l.a2.Rect.X1, li .i64 r196.2.l.a2.Rect.Y1, lb r196.2.l.a3.On, li .i64 r196.2.l.a3.Session, li .i64 r196.2.l.a3.Start, li .i64 r196.2.l.a3.Rect.X0, li .i64 r196.2.l.a3.Rect.Y0, li .i64 r196.2.l.a3.Rect.X1, li .i64 r196.2.l.a3.Rect.Y1]))] (by kernel_rfl) (by kernel_rfl) (by kernel_rfl) ?_
          exact ih_l174 (IntKind.wrap .i64 (i117 + 1)) r195.2.L.a0.On r195.2.L.a0.Session r195.2.L.a0.Start r195.2.L.a0.Rect.X0 r195.2.L.a0.Rect.Y0 r195.2.L.a0.Rect.X1 r195.2.L.a0.Rect.Y1 r195.2.L.a1.On r195.2.L.a1.Session r195.2.L.a1.Start r195.2.L.a1.Rect.X0 r195.2.L.a1.Rect.Y0 r195.2.L.a1.Rect.X1 r195.2.L.a1.Rect.Y1 r195.2.L.a2.On r195.2.L.a2.Session r195.2.L.a2.Start r195.2.L.a2.Rect.X0 r195.2.L.a2.Rect.Y0 r195.2.L.a2.Rect.X1 r195.2.L.a2.Rect.Y1 r195.2.L.a3.On r195.2.L.a3.Session r195.2.L.a3.Start r195.2.L.a3.Rect.X0 r195.2.L.a3.Rect.Y0 r195.2.L.a3.Rect.X1 r195.2.L.a3.Rect.Y1 r196.2.l.a0.On r196.2.l.a0.Session r196.2.l.a0.Start r196.2.l.a0.Rect.X0 r196.2.l.a0.Rect.Y0 r196.2.l.a0.Rect.X1 r196.2.l.a0.Rect.Y1 r196.2.l.a1.On r196.2.l.a1.Session r196.2.l.a1.Start r196.2.l.a1.Rect.X0 r196.2.l.a1.Rect.Y0 r196.2.l.a1.Rect.X1 r196.2.l.a1.Rect.Y1 r196.2.l.a2.On r196.2.l.a2.Session r196.2.l.a2.Start r196.2.l.a2.Rect.X0 r196.2.l.a2.Rect.Y0 r196.2.l.a2.Rect.X1 r196.2.l.a2.Rect.Y1 r196.2.l.a3.On r196.2.l.a3.Session r196.2.l.a3.Start r196.2.l.a3.Rect.X0 r196.2.l.a3.Rect.Y0 r196.2.l.a3.Rect.X1 r196.2.l.a3.Rect.Y1

def F11_l174 (n : Nat) (a0 : (List Step)) (a1 : Point) (a2 : Int) (a3 : Rect) : Nat → Int → Bool → Int → Int → Int → Int → Int → Int → Bool → Int → Int → Int → Int → Int → Int → Bool → Int → Int → Int → Int → Int → Int → Bool → Int → Int → Int → Int → Int → Int → Bool → Int → Int → Int → Int → Int → Int → Bool → Int → Int → Int → Int → Int → Int → Bool → Int → Int → Int → Int → Int → Int → Bool → Int → Int → Int → Int → Int → Int → Option Bool
  | 0, _, _, _, _, _, _, _, _, _, _, _, _, _, _, _, _, _, _, _, _, _, _, _, _, _, _, _, _, _, _, _, _, _, _, _, _, _, _, _, _, _, _, _, _, _, _, _, _, _, _, _, _, _, _, _, _, _ => none
  | m + 1, i117, b118, i119, i120, i121, i122, i123, i124, b125, i126, i127, i128, i129, i130, i131, b132, i133, i134, i135, i136, i137, i138, b139, i140, i141, i142, i143, i144, i145, b146, i147, i148, i149, i150, i151, i152, b153, i154, i155, i156, i157, i158, i159, b160, i161, i162, i163, i164, i165, i166, b167, i168, i169, i170, i171, i172, i173 =>
    if decide (i117 < ((a0).length : Int)) then
      (ix a0 i117).bind fun (x175 : Step) =>
      (F37 n x175.C).bind fun (r176 : Bool) =>
      if !(r176) then
        some true
      else
        (F38 n (Book.mk (A4.mk (Watch.mk b146 i147 i148 (Rect.mk i149 i150 i151 i152)) (Watch.mk b153 i154 i155 (Rect.mk i156 i157 i158 i159)) (Watch.mk b160 i161 i162 (Rect.mk i163 i164 i165 i166)) (Watch.mk b167 i168 i169 (Rect.mk i170 i171 i172 i173))))).bind fun (r177 : (Book × Book)) =>
        (ix a0 i117).bind fun (x178 : Step) =>
        (ix a0 i117).bind fun (x179 : Step) =>
        (F39 n r177.2 x178.C x179.Beat).bind fun (r180 : (Int × Book)) =>
        (ix a0 i117).bind fun (x181 : Step) =>
        (ix a0 i117).bind fun (x182 : Step) =>
        (F40 n (Book_vedetteref13.mk (A4.mk (Watch.mk b118 i119 i120 (Rect.mk i121 i122 i123 i124)) (Watch.mk b125 i126 i127 (Rect.mk i128 i129 i130 i131)) (Watch.mk b132 i133 i134 (Rect.mk i135 i136 i137 i138)) (Watch.mk b139 i140 i141 (Rect.mk i142 i143 i144 i145)))) x181.C x182.Beat).bind fun (r183 : (Int × Book_vedetteref13)) =>
        if r180.1 != r183.1 then
          some false
        else
          (F39 n r177.1 (Command.mk 6 0 0 0 (Point.mk 0 0) (A4.mk (Field.mk 0 ByteArray.empty) (Field.mk 0 ByteArray.empty) (Field.mk 0 ByteArray.empty) (Field.mk 0 ByteArray.empty)) (Field.mk 0 ByteArray.empty) 0 999999 (Rect.mk 0 0 0 0)) 5).bind fun (r184 : (Int × Book)) =>
          if decide ((0 : Int) ≤ a2) then
            if decide (a2 < 4) then
              if a2 = 0 then
                F11_j192 n a0 a1 a2 a3 i117 r180 r183 (F11_l174 n a0 a1 a2 a3 m) r183.2.L.a0.On r183.2.L.a0.Session r183.2.L.a0.Start r183.2.L.a0.Rect.X0 r183.2.L.a0.Rect.Y0 r183.2.L.a0.Rect.X1 r183.2.L.a0.Rect.Y1
              else
                if a2 = 1 then
                  F11_j192 n a0 a1 a2 a3 i117 r180 r183 (F11_l174 n a0 a1 a2 a3 m) r183.2.L.a1.On r183.2.L.a1.Session r183.2.L.a1.Start r183.2.L.a1.Rect.X0 r183.2.L.a1.Rect.Y0 r183.2.L.a1.Rect.X1 r183.2.L.a1.Rect.Y1
                else
                  if a2 = 2 then
                    F11_j192 n a0 a1 a2 a3 i117 r180 r183 (F11_l174 n a0 a1 a2 a3 m) r183.2.L.a2.On r183.2.L.a2.Session r183.2.L.a2.Start r183.2.L.a2.Rect.X0 r183.2.L.a2.Rect.Y0 r183.2.L.a2.Rect.X1 r183.2.L.a2.Rect.Y1
                  else
                    if a2 = 3 then
                      F11_j192 n a0 a1 a2 a3 i117 r180 r183 (F11_l174 n a0 a1 a2 a3 m) r183.2.L.a3.On r183.2.L.a3.Session r183.2.L.a3.Start r183.2.L.a3.Rect.X0 r183.2.L.a3.Rect.Y0 r183.2.L.a3.Rect.X1 r183.2.L.a3.Rect.Y1
                    else
                      none
            else
              F11_j192 n a0 a1 a2 a3 i117 r180 r183 (F11_l174 n a0 a1 a2 a3 m) false 0 0 0 0 0 0
          else
            F11_j192 n a0 a1 a2 a3 i117 r180 r183 (F11_l174 n a0 a1 a2 a3 m) false 0 0 0 0 0 0
    else
      (F45 n a3).bind fun (r197 : Rect) =>
      (F46 n a3).bind fun (r198 : Rect) =>
      some (Rect.eqb r197 r198)
theorem F11_l174_ok (n : Nat) (a0 : (List Step)) (a1 : Point) (a2 : Int) (a3 : Rect) : ∀ (m : Nat) (i117 : Int) (b118 : Bool) (i119 : Int) (i120 : Int) (i121 : Int) (i122 : Int) (i123 : Int) (i124 : Int) (b125 : Bool) (i126 : Int) (i127 : Int) (i128 : Int) (i129 : Int) (i130 : Int) (i131 : Int) (b132 : Bool) (i133 : Int) (i134 : Int) (i135 : Int) (i136 : Int) (i137 : Int) (i138 : Int) (b139 : Bool) (i140 : Int) (i141 : Int) (i142 : Int) (i143 : Int) (i144 : Int) (i145 : Int) (b146 : Bool) (i147 : Int) (i148 : Int) (i149 : Int) (i150 : Int) (i151 : Int) (i152 : Int) (b153 : Bool) (i154 : Int) (i155 : Int) (i156 : Int) (i157 : Int) (i158 : Int) (i159 : Int) (b160 : Bool) (i161 : Int) (i162 : Int) (i163 : Int) (i164 : Int) (i165 : Int) (i166 : Int) (b167 : Bool) (i168 : Int) (i169 : Int) (i170 : Int) (i171 : Int) (i172 : Int) (i173 : Int), SimL Try.prog D (n + 8) m pc11_c61 [(0, .one (vw Step.cod a0)), (2, .one (li .i64 a2)), (5, .one (.ptr 5 0)), (7, .one (.ptr 7 0)), (9, .one (.ptr 300000 0)), (10, .one (.ptr 21 0)), (11, .one (li .i64 i117))] [(5, some (.cells [li .i64 a1.X, li .i64 a1.Y])), (7, some (.cells [li .i64 a3.X0, li .i64 a3.Y0, li .i64 a3.X1, li .i64 a3.Y1])), (21, some (.cells [lb b118, li .i64 i119, li .i64 i120, li .i64 i121, li .i64 i122, li .i64 i123, li .i64 i124, lb b125, li .i64 i126, li .i64 i127, li .i64 i128, li .i64 i129, li .i64 i130, li .i64 i131, lb b132, li .i64 i133, li .i64 i134, li .i64 i135, li .i64 i136, li .i64 i137, li .i64 i138, lb b139, li .i64 i140, li .i64 i141, li .i64 i142, li .i64 i143, li .i64 i144, li .i64 i145])), (300000, some (.cells [lb b146, li .i64 i147, li .i64 i148, li .i64 i149, li .i64 i150, li .i64 i151, li .i64 i152, lb b153, li .i64 i154, li .i64 i155, li .i64 i156, li .i64 i157, li .i64 i158, li .i64 i159, lb b160, li .i64 i161, li .i64 i162, li .i64 i163, li .i64 i164, li .i64 i165, li .i64 i166, lb b167, li .i64 i168, li .i64 i169, li .i64 i170, li .i64 i171, li .i64 i172, li .i64 i173]))] (F11_l174 n a0 a1 a2 a3 m i117 b118 i119 i120 i121 i122 i123 i124 b125 i126 i127 i128 i129 i130 i131 b132 i133 i134 i135 i136 i137 i138 b139 i140 i141 i142 i143 i144 i145 b146 i147 i148 i149 i150 i151 i152 b153 i154 i155 i156 i157 i158 i159 b160 i161 i162 i163 i164 i165 i166 b167 i168 i169 i170 i171 i172 i173) (QB 0 (QT Try.prog D (n + 8) pc11_c67 (QF false pc11_r 0 F11_e))) := by
  intro m_l174
  induction m_l174 with
  | zero => intro i117 b118 i119 i120 i121 i122 i123 i124 b125 i126 i127 i128 i129 i130 i131 b132 i133 i134 i135 i136 i137 i138 b139 i140 i141 i142 i143 i144 i145 b146 i147 i148 i149 i150 i151 i152 b153 i154 i155 i156 i157 i158 i159 b160 i161 i162 i163 i164 i165 i166 b167 i168 i169 i170 i171 i172 i173; exact SimL.zero'  rfl
  | succ m_l174 ih_l174 =>
    intro i117 b118 i119 i120 i121 i122 i123 i124 b125 i126 i127 i128 i129 i130 i131 b132 i133 i134 i135 i136 i137 i138 b139 i140 i141 i142 i143 i144 i145 b146 i147 i148 i149 i150 i151 i152 b153 i154 i155 i156 i157 i158 i159 b160 i161 i162 i163 i164 i165 i166 b167 i168 i169 i170 i171 i172 i173
    refine SimL.succ ?_
    unfold F11_l174
    refine Sim.seq ?_
    refine Sim.seq ?_
    refine Sim.region [(0, .one (vw Step.cod a0)), (2, .one (li .i64 a2)), (5, .one (.ptr 5 0)), (7, .one (.ptr 7 0)), (9, .one (.ptr 300000 0)), (10, .one (.ptr 21 0)), (11, .one (li .i64 i117))] [(5, some (.cells [li .i64 a1.X, li .i64 a1.Y])), (7, some (.cells [li .i64 a3.X0, li .i64 a3.Y0, li .i64 a3.X1, li .i64 a3.Y1])), (21, some (.cells [lb b118, li .i64 i119, li .i64 i120, li .i64 i121, li .i64 i122, li .i64 i123, li .i64 i124, lb b125, li .i64 i126, li .i64 i127, li .i64 i128, li .i64 i129, li .i64 i130, li .i64 i131, lb b132, li .i64 i133, li .i64 i134, li .i64 i135, li .i64 i136, li .i64 i137, li .i64 i138, lb b139, li .i64 i140, li .i64 i141, li .i64 i142, li .i64 i143, li .i64 i144, li .i64 i145])), (300000, some (.cells [lb b146, li .i64 i147, li .i64 i148, li .i64 i149, li .i64 i150, li .i64 i151, li .i64 i152, lb b153, li .i64 i154, li .i64 i155, li .i64 i156, li .i64 i157, li .i64 i158, li .i64 i159, lb b160, li .i64 i161, li .i64 i162, li .i64 i163, li .i64 i164, li .i64 i165, li .i64 i166, lb b167, li .i64 i168, li .i64 i169, li .i64 i170, li .i64 i171, li .i64 i172, li .i64 i173]))] (by kernel_rfl) ?_
    refine SimI.run 4 [(25, .one (lb (decide (i117 < ((a0).length : Int))))), (24, .one (li .i64 ((a0).length : Int))), (23, .one (vw Step.cod a0)), (22, .one (li .i64 i117))] [] (by kernel_rfl) ?_
    refine SimI.done (by kernel_rfl) ?_
    refine SimE.thenN ?_
    refine Sim.cond (decide (i117 < ((a0).length : Int))) (by kernel_rfl) ?_ ?_
    · refine Sim.skip ?_
      refine SimE.thenN ?_
      refine Sim.seq ?_
      refine Sim.block ?_
      refine Sim.seq ?_
      refine Sim.seq ?_
      refine Sim.region0 ?_
      refine SimI.run 2 [(29, .one (li .i64 i117)), (28, .one (vw Step.cod a0))] [] (by kernel_rfl) ?_
      refine SimI.bind (og := ix a0 i117) { dst := some 30, op := POp.iaddrS 23 (Operand.tmp 28) (Operand.tmp 29), guard := none, hints := [] } (fun x175 => [(30, .one (.eptr (Step.cod.enc x175) 0))]) (fun x175 => []) (by kernel_rfl) (fun x175 hr => pOp_eff (by kernel_rfl) (by kernel_rfl) (eff_idx (c := Step.cod) (l := a0) (k := .i64) (n := i117) (by kernel_rfl) (by kernel_rfl) (by kernel_rfl) hr)) (fun x175 => ?_)
      refine SimI.run 2 [(32, .agg [li .i64 x175.C.Kind, li .i64 x175.C.ID, li .i64 x175.C.Which, li .i64 x175.C.To, li .i64 x175.C.At.X, li .i64 x175.C.At.Y, li .i64 x175.C.F.a0.N, ls x175.C.F.a0.Text, li .i64 x175.C.F.a1.N, ls x175.C.F.a1.Text, li .i64 x175.C.F.a2.N, ls x175.C.F.a2.Text, li .i64 x175.C.F.a3.N, ls x175.C.F.a3.Text, li .i64 x175.C.Value.N, ls x175.C.Value.Text, li .i64 x175.C.Client, li .i64 x175.C.Session, li .i64 x175.C.Rect.X0, li .i64 x175.C.Rect.Y0, li .i64 x175.C.Rect.X1, li .i64 x175.C.Rect.Y1]), (31, .one (.eptr (Step.cod.enc x175) 0))] [] (by kernel_rfl) ?_
      refine SimI.bind (og := F37 n x175.C) { dst := some 33, op := POp.call true [[]] 37 [Operand.tmp 32], guard := none, hints := [] } (fun r176 => [(33, .one (lb r176))]) (fun r176 => []) (by kernel_rfl) (fun r176 hr => pOp_eff (by kernel_rfl) (by kernel_rfl) (eff_call (ARGS := [.agg [li .i64 x175.C.Kind, li .i64 x175.C.ID, li .i64 x175.C.Which, li .i64 x175.C.To, li .i64 x175.C.At.X, li .i64 x175.C.At.Y, li .i64 x175.C.F.a0.N, ls x175.C.F.a0.Text, li .i64 x175.C.F.a1.N, ls x175.C.F.a1.Text, li .i64 x175.C.F.a2.N, ls x175.C.F.a2.Text, li .i64 x175.C.F.a3.N, ls x175.C.F.a3.Text, li .i64 x175.C.Value.N, ls x175.C.Value.Text, li .i64 x175.C.Client, li .i64 x175.C.Session, li .i64 x175.C.Rect.X0, li .i64 x175.C.Rect.Y0, li .i64 x175.C.Rect.X1, li .i64 x175.C.Rect.Y1]]) (by kernel_rfl) (args_clean (by kernel_rfl) args_nil) (F37_ok n x175.C r176 hr) (by kernel_rfl))) (fun r176 => ?_)
      refine SimI.run 1 [(34, .one (lb (!(r176))))] [] (by kernel_rfl) ?_
      refine SimI.done (by kernel_rfl) ?_
      refine SimE.thenN ?_
      refine Sim.cond (!(r176)) (by kernel_rfl) ?_ ?_
      · refine Sim.seq ?_
        refine Sim.region0 ?_
        refine SimI.run 1 [(8, .one (lb true))] [] (by kernel_rfl) ?_
        refine SimI.done (by kernel_rfl) ?_
        refine SimE.thenN ?_
        refine Sim.ret ?_
        refine SimE.thenR ?_
        refine SimE.blockR ?_
        refine SimE.thenR ?_
        refine SimE.loopR ?_
        refine SimE.blockR ?_
        refine SimE.thenR ?_
        exact SimE.fin (by kernel_rfl)
      · refine Sim.skip ?_
        refine SimE.thenN ?_
        refine Sim.seq ?_
        refine Sim.region0 ?_
        refine SimI.run 1 [(35, .one (.ptr 300000 0))] [] (by kernel_rfl) ?_
        refine SimI.bind (og := F38 n (Book.mk (A4.mk (Watch.mk b146 i147 i148 (Rect.mk i149 i150 i151 i152)) (Watch.mk b153 i154 i155 (Rect.mk i156 i157 i158 i159)) (Watch.mk b160 i161 i162 (Rect.mk i163 i164 i165 i166)) (Watch.mk b167 i168 i169 (Rect.mk i170 i171 i172 i173))))) { dst := some 36, op := POp.gcall false false [300000, 300001, 300002, 300003, 300004, 300005, 300006, 300007] [[]] 38 [Operand.tmp 35], guard := none, hints := [] } (fun r177 => [(36, .one (.ptr 300001 0))]) (fun r177 => [(300000, some (.cells [lb r177.2.l.a0.On, li .i64 r177.2.l.a0.Session, li .i64 r177.2.l.a0.Start, li .i64 r177.2.l.a0.Rect.X0, li .i64 r177.2.l.a0.Rect.Y0, li .i64 r177.2.l.a0.Rect.X1, li .i64 r177.2.l.a0.Rect.Y1, lb r177.2.l.a1.On, li .i64 r177.2.l.a1.Session, li .i64 r177.2.l.a1.Start, li .i64 r177.2.l.a1.Rect.X0, li .i64 r177.2.l.a1.Rect.Y0, li .i64 r177.2.l.a1.Rect.X1, li .i64 r177.2.l.a1.Rect.Y1, lb r177.2.l.a2.On, li .i64 r177.2.l.a2.Session, li .i64 r177.2.l.a2.Start, li .i64 r177.2.l.a2.Rect.X0, li .i64 r177.2.l.a2.Rect.Y0, li .i64 r177.2.l.a2.Rect.X1, li .i64 r177.2.l.a2.Rect.Y1, lb r177.2.l.a3.On, li .i64 r177.2.l.a3.Session, li .i64 r177.2.l.a3.Start, li .i64 r177.2.l.a3.Rect.X0, li .i64 r177.2.l.a3.Rect.Y0, li .i64 r177.2.l.a3.Rect.X1, li .i64 r177.2.l.a3.Rect.Y1])), (300001, some (.cells [lb r177.1.l.a0.On, li .i64 r177.1.l.a0.Session, li .i64 r177.1.l.a0.Start, li .i64 r177.1.l.a0.Rect.X0, li .i64 r177.1.l.a0.Rect.Y0, li .i64 r177.1.l.a0.Rect.X1, li .i64 r177.1.l.a0.Rect.Y1, lb r177.1.l.a1.On, li .i64 r177.1.l.a1.Session, li .i64 r177.1.l.a1.Start, li .i64 r177.1.l.a1.Rect.X0, li .i64 r177.1.l.a1.Rect.Y0, li .i64 r177.1.l.a1.Rect.X1, li .i64 r177.1.l.a1.Rect.Y1, lb r177.1.l.a2.On, li .i64 r177.1.l.a2.Session, li .i64 r177.1.l.a2.Start, li .i64 r177.1.l.a2.Rect.X0, li .i64 r177.1.l.a2.Rect.Y0, li .i64 r177.1.l.a2.Rect.X1, li .i64 r177.1.l.a2.Rect.Y1, lb r177.1.l.a3.On, li .i64 r177.1.l.a3.Session, li .i64 r177.1.l.a3.Start, li .i64 r177.1.l.a3.Rect.X0, li .i64 r177.1.l.a3.Rect.Y0, li .i64 r177.1.l.a3.Rect.X1, li .i64 r177.1.l.a3.Rect.Y1]))]) (by kernel_rfl) (fun r177 hr => pOp_eff (by kernel_rfl) (by kernel_rfl) (eff_gcall (ks := [300000]) (rks := []) (new := [300001]) (ARGS := [.one (.ptr 300000 0)]) (args1 := [.one (.ptr 300000 0)]) (args2 := [.one (.ptr 1000000 0)]) (os := [.cells [lb b146, li .i64 i147, li .i64 i148, li .i64 i149, li .i64 i150, li .i64 i151, li .i64 i152, lb b153, li .i64 i154, li .i64 i155, li .i64 i156, li .i64 i157, li .i64 i158, li .i64 i159, lb b160, li .i64 i161, li .i64 i162, li .i64 i163, li .i64 i164, li .i64 i165, li .i64 i166, lb b167, li .i64 i168, li .i64 i169, li .i64 i170, li .i64 i171, li .i64 i172, li .i64 i173]]) (os' := [.cells [lb r177.2.l.a0.On, li .i64 r177.2.l.a0.Session, li .i64 r177.2.l.a0.Start, li .i64 r177.2.l.a0.Rect.X0, li .i64 r177.2.l.a0.Rect.Y0, li .i64 r177.2.l.a0.Rect.X1, li .i64 r177.2.l.a0.Rect.Y1, lb r177.2.l.a1.On, li .i64 r177.2.l.a1.Session, li .i64 r177.2.l.a1.Start, li .i64 r177.2.l.a1.Rect.X0, li .i64 r177.2.l.a1.Rect.Y0, li .i64 r177.2.l.a1.Rect.X1, li .i64 r177.2.l.a1.Rect.Y1, lb r177.2.l.a2.On, li .i64 r177.2.l.a2.Session, li .i64 r177.2.l.a2.Start, li .i64 r177.2.l.a2.Rect.X0, li .i64 r177.2.l.a2.Rect.Y0, li .i64 r177.2.l.a2.Rect.X1, li .i64 r177.2.l.a2.Rect.Y1, lb r177.2.l.a3.On, li .i64 r177.2.l.a3.Session, li .i64 r177.2.l.a3.Start, li .i64 r177.2.l.a3.Rect.X0, li .i64 r177.2.l.a3.Rect.Y0, li .i64 r177.2.l.a3.Rect.X1, li .i64 r177.2.l.a3.Rect.Y1], .cells [lb r177.1.l.a0.On, li .i64 r177.1.l.a0.Session, li .i64 r177.1.l.a0.Start, li .i64 r177.1.l.a0.Rect.X0, li .i64 r177.1.l.a0.Rect.Y0, li .i64 r177.1.l.a0.Rect.X1, li .i64 r177.1.l.a0.Rect.Y1, lb r177.1.l.a1.On, li .i64 r177.1.l.a1.Session, li .i64 r177.1.l.a1.Start, li .i64 r177.1.l.a1.Rect.X0, li .i64 r177.1.l.a1.Rect.Y0, li .i64 r177.1.l.a1.Rect.X1, li .i64 r177.1.l.a1.Rect.Y1, lb r177.1.l.a2.On, li .i64 r177.1.l.a2.Session, li .i64 r177.1.l.a2.Start, li .i64 r177.1.l.a2.Rect.X0, li .i64 r177.1.l.a2.Rect.Y0, li .i64 r177.1.l.a2.Rect.X1, li .i64 r177.1.l.a2.Rect.Y1, lb r177.1.l.a3.On, li .i64 r177.1.l.a3.Session, li .i64 r177.1.l.a3.Start, li .i64 r177.1.l.a3.Rect.X0, li .i64 r177.1.l.a3.Rect.Y0, li .i64 r177.1.l.a3.Rect.X1, li .i64 r177.1.l.a3.Rect.Y1]]) (os1 := [.cells [lb r177.2.l.a0.On, li .i64 r177.2.l.a0.Session, li .i64 r177.2.l.a0.Start, li .i64 r177.2.l.a0.Rect.X0, li .i64 r177.2.l.a0.Rect.Y0, li .i64 r177.2.l.a0.Rect.X1, li .i64 r177.2.l.a0.Rect.Y1, lb r177.2.l.a1.On, li .i64 r177.2.l.a1.Session, li .i64 r177.2.l.a1.Start, li .i64 r177.2.l.a1.Rect.X0, li .i64 r177.2.l.a1.Rect.Y0, li .i64 r177.2.l.a1.Rect.X1, li .i64 r177.2.l.a1.Rect.Y1, lb r177.2.l.a2.On, li .i64 r177.2.l.a2.Session, li .i64 r177.2.l.a2.Start, li .i64 r177.2.l.a2.Rect.X0, li .i64 r177.2.l.a2.Rect.Y0, li .i64 r177.2.l.a2.Rect.X1, li .i64 r177.2.l.a2.Rect.Y1, lb r177.2.l.a3.On, li .i64 r177.2.l.a3.Session, li .i64 r177.2.l.a3.Start, li .i64 r177.2.l.a3.Rect.X0, li .i64 r177.2.l.a3.Rect.Y0, li .i64 r177.2.l.a3.Rect.X1, li .i64 r177.2.l.a3.Rect.Y1], .cells [lb r177.1.l.a0.On, li .i64 r177.1.l.a0.Session, li .i64 r177.1.l.a0.Start, li .i64 r177.1.l.a0.Rect.X0, li .i64 r177.1.l.a0.Rect.Y0, li .i64 r177.1.l.a0.Rect.X1, li .i64 r177.1.l.a0.Rect.Y1, lb r177.1.l.a1.On, li .i64 r177.1.l.a1.Session, li .i64 r177.1.l.a1.Start, li .i64 r177.1.l.a1.Rect.X0, li .i64 r177.1.l.a1.Rect.Y0, li .i64 r177.1.l.a1.Rect.X1, li .i64 r177.1.l.a1.Rect.Y1, lb r177.1.l.a2.On, li .i64 r177.1.l.a2.Session, li .i64 r177.1.l.a2.Start, li .i64 r177.1.l.a2.Rect.X0, li .i64 r177.1.l.a2.Rect.Y0, li .i64 r177.1.l.a2.Rect.X1, li .i64 r177.1.l.a2.Rect.Y1, lb r177.1.l.a3.On, li .i64 r177.1.l.a3.Session, li .i64 r177.1.l.a3.Start, li .i64 r177.1.l.a3.Rect.X0, li .i64 r177.1.l.a3.Rect.Y0, li .i64 r177.1.l.a3.Rect.X1, li .i64 r177.1.l.a3.Rect.Y1]]) (res := .one (.ptr 1000001 0)) (res1 := .one (.ptr 1000001 0)) (r := .one (.ptr 300001 0)) (N := [(300000, some (.cells [lb r177.2.l.a0.On, li .i64 r177.2.l.a0.Session, li .i64 r177.2.l.a0.Start, li .i64 r177.2.l.a0.Rect.X0, li .i64 r177.2.l.a0.Rect.Y0, li .i64 r177.2.l.a0.Rect.X1, li .i64 r177.2.l.a0.Rect.Y1, lb r177.2.l.a1.On, li .i64 r177.2.l.a1.Session, li .i64 r177.2.l.a1.Start, li .i64 r177.2.l.a1.Rect.X0, li .i64 r177.2.l.a1.Rect.Y0, li .i64 r177.2.l.a1.Rect.X1, li .i64 r177.2.l.a1.Rect.Y1, lb r177.2.l.a2.On, li .i64 r177.2.l.a2.Session, li .i64 r177.2.l.a2.Start, li .i64 r177.2.l.a2.Rect.X0, li .i64 r177.2.l.a2.Rect.Y0, li .i64 r177.2.l.a2.Rect.X1, li .i64 r177.2.l.a2.Rect.Y1, lb r177.2.l.a3.On, li .i64 r177.2.l.a3.Session, li .i64 r177.2.l.a3.Start, li .i64 r177.2.l.a3.Rect.X0, li .i64 r177.2.l.a3.Rect.Y0, li .i64 r177.2.l.a3.Rect.X1, li .i64 r177.2.l.a3.Rect.Y1])), (300001, some (.cells [lb r177.1.l.a0.On, li .i64 r177.1.l.a0.Session, li .i64 r177.1.l.a0.Start, li .i64 r177.1.l.a0.Rect.X0, li .i64 r177.1.l.a0.Rect.Y0, li .i64 r177.1.l.a0.Rect.X1, li .i64 r177.1.l.a0.Rect.Y1, lb r177.1.l.a1.On, li .i64 r177.1.l.a1.Session, li .i64 r177.1.l.a1.Start, li .i64 r177.1.l.a1.Rect.X0, li .i64 r177.1.l.a1.Rect.Y0, li .i64 r177.1.l.a1.Rect.X1, li .i64 r177.1.l.a1.Rect.Y1, lb r177.1.l.a2.On, li .i64 r177.1.l.a2.Session, li .i64 r177.1.l.a2.Start, li .i64 r177.1.l.a2.Rect.X0, li .i64 r177.1.l.a2.Rect.Y0, li .i64 r177.1.l.a2.Rect.X1, li .i64 r177.1.l.a2.Rect.Y1, lb r177.1.l.a3.On, li .i64 r177.1.l.a3.Session, li .i64 r177.1.l.a3.Start, li .i64 r177.1.l.a3.Rect.X0, li .i64 r177.1.l.a3.Rect.Y0, li .i64 r177.1.l.a3.Rect.X1, li .i64 r177.1.l.a3.Rect.Y1]))]) (by kernel_rfl) (readA_ow (readA_keep (by kernel_rfl) (readA_nil))) (by kernel_rfl) (by kernel_rfl) (by kernel_rfl) (by kernel_rfl) (F38_ok n (Book.mk (A4.mk (Watch.mk b146 i147 i148 (Rect.mk i149 i150 i151 i152)) (Watch.mk b153 i154 i155 (Rect.mk i156 i157 i158 i159)) (Watch.mk b160 i161 i162 (Rect.mk i163 i164 i165 i166)) (Watch.mk b167 i168 i169 (Rect.mk i170 i171 i172 i173)))) r177 hr) (by kernel_rfl) (by kernel_rfl) (by kernel_rfl) rfl (by kernel_rfl) (by kernel_rfl) (by kernel_rfl))) (fun r177 => ?_)
        refine SimI.run 1 [(12, .one (.ptr 300001 0))] [] (by kernel_rfl) ?_
        refine SimI.done (by kernel_rfl) ?_
        refine SimE.thenN ?_
        refine Sim.seq ?_
        refine Sim.seq ?_
        refine Sim.region0 ?_
        refine SimI.run 3 [(39, .one (li .i64 i117)), (38, .one (vw Step.cod a0)), (37, .one (.ptr 300000 0))] [] (by kernel_rfl) ?_
        refine SimI.bind (og := ix a0 i117) { dst := some 40, op := POp.iaddrS 23 (Operand.tmp 38) (Operand.tmp 39), guard := none, hints := [(38, Hint.imm), (39, Hint.imm)] } (fun x178 => [(40, .one (.eptr (Step.cod.enc x178) 0))]) (fun x178 => []) (by kernel_rfl) (fun x178 hr => pOp_eff (by kernel_rfl) (by kernel_rfl) (eff_idx (c := Step.cod) (l := a0) (k := .i64) (n := i117) (by kernel_rfl) (by kernel_rfl) (by kernel_rfl) hr)) (fun x178 => ?_)
        refine SimI.run 4 [(44, .one (li .i64 i117)), (43, .one (vw Step.cod a0)), (42, .agg [li .i64 x178.C.Kind, li .i64 x178.C.ID, li .i64 x178.C.Which, li .i64 x178.C.To, li .i64 x178.C.At.X, li .i64 x178.C.At.Y, li .i64 x178.C.F.a0.N, ls x178.C.F.a0.Text, li .i64 x178.C.F.a1.N, ls x178.C.F.a1.Text, li .i64 x178.C.F.a2.N, ls x178.C.F.a2.Text, li .i64 x178.C.F.a3.N, ls x178.C.F.a3.Text, li .i64 x178.C.Value.N, ls x178.C.Value.Text, li .i64 x178.C.Client, li .i64 x178.C.Session, li .i64 x178.C.Rect.X0, li .i64 x178.C.Rect.Y0, li .i64 x178.C.Rect.X1, li .i64 x178.C.Rect.Y1]), (41, .one (.eptr (Step.cod.enc x178) 0))] [] (by kernel_rfl) ?_
        refine SimI.bind (og := ix a0 i117) { dst := some 45, op := POp.iaddrS 23 (Operand.tmp 43) (Operand.tmp 44), guard := none, hints := [(43, Hint.imm), (44, Hint.imm)] } (fun x179 => [(45, .one (.eptr (Step.cod.enc x179) 0))]) (fun x179 => []) (by kernel_rfl) (fun x179 hr => pOp_eff (by kernel_rfl) (by kernel_rfl) (eff_idx (c := Step.cod) (l := a0) (k := .i64) (n := i117) (by kernel_rfl) (by kernel_rfl) (by kernel_rfl) hr)) (fun x179 => ?_)
        refine SimI.run 2 [(47, .one (li .i64 x179.Beat)), (46, .one (.eptr (Step.cod.enc x179) 22))] [] (by kernel_rfl) ?_
        refine SimI.bind (og := F39 n r177.2 x178.C x179.Beat) { dst := some 48, op := POp.call true [[], [], []] 39 [Operand.tmp 37, Operand.tmp 42, Operand.tmp 47], guard := none, hints := [(37, Hint.at_ 300000 0), (42, Hint.imm), (47, Hint.imm)] } (fun r180 => [(48, .one (li .i64 r180.1))]) (fun r180 => [(300000, some (.cells [lb r180.2.l.a0.On, li .i64 r180.2.l.a0.Session, li .i64 r180.2.l.a0.Start, li .i64 r180.2.l.a0.Rect.X0, li .i64 r180.2.l.a0.Rect.Y0, li .i64 r180.2.l.a0.Rect.X1, li .i64 r180.2.l.a0.Rect.Y1, lb r180.2.l.a1.On, li .i64 r180.2.l.a1.Session, li .i64 r180.2.l.a1.Start, li .i64 r180.2.l.a1.Rect.X0, li .i64 r180.2.l.a1.Rect.Y0, li .i64 r180.2.l.a1.Rect.X1, li .i64 r180.2.l.a1.Rect.Y1, lb r180.2.l.a2.On, li .i64 r180.2.l.a2.Session, li .i64 r180.2.l.a2.Start, li .i64 r180.2.l.a2.Rect.X0, li .i64 r180.2.l.a2.Rect.Y0, li .i64 r180.2.l.a2.Rect.X1, li .i64 r180.2.l.a2.Rect.Y1, lb r180.2.l.a3.On, li .i64 r180.2.l.a3.Session, li .i64 r180.2.l.a3.Start, li .i64 r180.2.l.a3.Rect.X0, li .i64 r180.2.l.a3.Rect.Y0, li .i64 r180.2.l.a3.Rect.X1, li .i64 r180.2.l.a3.Rect.Y1]))]) (by kernel_rfl) (fun r180 hr => pOp_eff (by kernel_rfl) (by kernel_rfl) (eff_callp (ARGS := [.one (.ptr 300000 0), .agg [li .i64 x178.C.Kind, li .i64 x178.C.ID, li .i64 x178.C.Which, li .i64 x178.C.To, li .i64 x178.C.At.X, li .i64 x178.C.At.Y, li .i64 x178.C.F.a0.N, ls x178.C.F.a0.Text, li .i64 x178.C.F.a1.N, ls x178.C.F.a1.Text, li .i64 x178.C.F.a2.N, ls x178.C.F.a2.Text, li .i64 x178.C.F.a3.N, ls x178.C.F.a3.Text, li .i64 x178.C.Value.N, ls x178.C.Value.Text, li .i64 x178.C.Client, li .i64 x178.C.Session, li .i64 x178.C.Rect.X0, li .i64 x178.C.Rect.Y0, li .i64 x178.C.Rect.X1, li .i64 x178.C.Rect.Y1], .one (li .i64 x179.Beat)]) (ARGS' := [.one (.ptr 1000000 0), .agg [li .i64 x178.C.Kind, li .i64 x178.C.ID, li .i64 x178.C.Which, li .i64 x178.C.To, li .i64 x178.C.At.X, li .i64 x178.C.At.Y, li .i64 x178.C.F.a0.N, ls x178.C.F.a0.Text, li .i64 x178.C.F.a1.N, ls x178.C.F.a1.Text, li .i64 x178.C.F.a2.N, ls x178.C.F.a2.Text, li .i64 x178.C.F.a3.N, ls x178.C.F.a3.Text, li .i64 x178.C.Value.N, ls x178.C.Value.Text, li .i64 x178.C.Client, li .i64 x178.C.Session, li .i64 x178.C.Rect.X0, li .i64 x178.C.Rect.Y0, li .i64 x178.C.Rect.X1, li .i64 x178.C.Rect.Y1], .one (li .i64 x179.Beat)]) (ks := [300000]) (os := [[lb r177.2.l.a0.On, li .i64 r177.2.l.a0.Session, li .i64 r177.2.l.a0.Start, li .i64 r177.2.l.a0.Rect.X0, li .i64 r177.2.l.a0.Rect.Y0, li .i64 r177.2.l.a0.Rect.X1, li .i64 r177.2.l.a0.Rect.Y1, lb r177.2.l.a1.On, li .i64 r177.2.l.a1.Session, li .i64 r177.2.l.a1.Start, li .i64 r177.2.l.a1.Rect.X0, li .i64 r177.2.l.a1.Rect.Y0, li .i64 r177.2.l.a1.Rect.X1, li .i64 r177.2.l.a1.Rect.Y1, lb r177.2.l.a2.On, li .i64 r177.2.l.a2.Session, li .i64 r177.2.l.a2.Start, li .i64 r177.2.l.a2.Rect.X0, li .i64 r177.2.l.a2.Rect.Y0, li .i64 r177.2.l.a2.Rect.X1, li .i64 r177.2.l.a2.Rect.Y1, lb r177.2.l.a3.On, li .i64 r177.2.l.a3.Session, li .i64 r177.2.l.a3.Start, li .i64 r177.2.l.a3.Rect.X0, li .i64 r177.2.l.a3.Rect.Y0, li .i64 r177.2.l.a3.Rect.X1, li .i64 r177.2.l.a3.Rect.Y1]]) (os' := [[lb r180.2.l.a0.On, li .i64 r180.2.l.a0.Session, li .i64 r180.2.l.a0.Start, li .i64 r180.2.l.a0.Rect.X0, li .i64 r180.2.l.a0.Rect.Y0, li .i64 r180.2.l.a0.Rect.X1, li .i64 r180.2.l.a0.Rect.Y1, lb r180.2.l.a1.On, li .i64 r180.2.l.a1.Session, li .i64 r180.2.l.a1.Start, li .i64 r180.2.l.a1.Rect.X0, li .i64 r180.2.l.a1.Rect.Y0, li .i64 r180.2.l.a1.Rect.X1, li .i64 r180.2.l.a1.Rect.Y1, lb r180.2.l.a2.On, li .i64 r180.2.l.a2.Session, li .i64 r180.2.l.a2.Start, li .i64 r180.2.l.a2.Rect.X0, li .i64 r180.2.l.a2.Rect.Y0, li .i64 r180.2.l.a2.Rect.X1, li .i64 r180.2.l.a2.Rect.Y1, lb r180.2.l.a3.On, li .i64 r180.2.l.a3.Session, li .i64 r180.2.l.a3.Start, li .i64 r180.2.l.a3.Rect.X0, li .i64 r180.2.l.a3.Rect.Y0, li .i64 r180.2.l.a3.Rect.X1, li .i64 r180.2.l.a3.Rect.Y1]]) (by kernel_rfl) (args_ptr (by kernel_rfl) (args_clean (by kernel_rfl) (args_clean (by kernel_rfl) args_nil))) rfl (by kernel_rfl) (F39_ok n r177.2 x178.C x179.Beat r180 hr) (by kernel_rfl) (by kernel_rfl))) (fun r180 => ?_)
        refine SimI.run 3 [(51, .one (li .i64 i117)), (50, .one (vw Step.cod a0)), (49, .one (.ptr 21 0))] [] (by kernel_rfl) ?_
        refine SimI.bind (og := ix a0 i117) { dst := some 52, op := POp.iaddrS 23 (Operand.tmp 50) (Operand.tmp 51), guard := none, hints := [(50, Hint.imm), (51, Hint.imm)] } (fun x181 => [(52, .one (.eptr (Step.cod.enc x181) 0))]) (fun x181 => []) (by kernel_rfl) (fun x181 hr => pOp_eff (by kernel_rfl) (by kernel_rfl) (eff_idx (c := Step.cod) (l := a0) (k := .i64) (n := i117) (by kernel_rfl) (by kernel_rfl) (by kernel_rfl) hr)) (fun x181 => ?_)
        refine SimI.run 4 [(56, .one (li .i64 i117)), (55, .one (vw Step.cod a0)), (54, .agg [li .i64 x181.C.Kind, li .i64 x181.C.ID, li .i64 x181.C.Which, li .i64 x181.C.To, li .i64 x181.C.At.X, li .i64 x181.C.At.Y, li .i64 x181.C.F.a0.N, ls x181.C.F.a0.Text, li .i64 x181.C.F.a1.N, ls x181.C.F.a1.Text, li .i64 x181.C.F.a2.N, ls x181.C.F.a2.Text, li .i64 x181.C.F.a3.N, ls x181.C.F.a3.Text, li .i64 x181.C.Value.N, ls x181.C.Value.Text, li .i64 x181.C.Client, li .i64 x181.C.Session, li .i64 x181.C.Rect.X0, li .i64 x181.C.Rect.Y0, li .i64 x181.C.Rect.X1, li .i64 x181.C.Rect.Y1]), (53, .one (.eptr (Step.cod.enc x181) 0))] [] (by kernel_rfl) ?_
        refine SimI.bind (og := ix a0 i117) { dst := some 57, op := POp.iaddrS 23 (Operand.tmp 55) (Operand.tmp 56), guard := none, hints := [(55, Hint.imm), (56, Hint.imm)] } (fun x182 => [(57, .one (.eptr (Step.cod.enc x182) 0))]) (fun x182 => []) (by kernel_rfl) (fun x182 hr => pOp_eff (by kernel_rfl) (by kernel_rfl) (eff_idx (c := Step.cod) (l := a0) (k := .i64) (n := i117) (by kernel_rfl) (by kernel_rfl) (by kernel_rfl) hr)) (fun x182 => ?_)
        refine SimI.run 2 [(59, .one (li .i64 x182.Beat)), (58, .one (.eptr (Step.cod.enc x182) 22))] [] (by kernel_rfl) ?_
        refine SimI.bind (og := F40 n (Book_vedetteref13.mk (A4.mk (Watch.mk b118 i119 i120 (Rect.mk i121 i122 i123 i124)) (Watch.mk b125 i126 i127 (Rect.mk i128 i129 i130 i131)) (Watch.mk b132 i133 i134 (Rect.mk i135 i136 i137 i138)) (Watch.mk b139 i140 i141 (Rect.mk i142 i143 i144 i145)))) x181.C x182.Beat) { dst := some 60, op := POp.call true [[], [], []] 40 [Operand.tmp 49, Operand.tmp 54, Operand.tmp 59], guard := none, hints := [(49, Hint.at_ 21 0), (54, Hint.imm), (59, Hint.imm)] } (fun r183 => [(60, .one (li .i64 r183.1))]) (fun r183 => [(21, some (.cells [lb r183.2.L.a0.On, li .i64 r183.2.L.a0.Session, li .i64 r183.2.L.a0.Start, li .i64 r183.2.L.a0.Rect.X0, li .i64 r183.2.L.a0.Rect.Y0, li .i64 r183.2.L.a0.Rect.X1, li .i64 r183.2.L.a0.Rect.Y1, lb r183.2.L.a1.On, li .i64 r183.2.L.a1.Session, li .i64 r183.2.L.a1.Start, li .i64 r183.2.L.a1.Rect.X0, li .i64 r183.2.L.a1.Rect.Y0, li .i64 r183.2.L.a1.Rect.X1, li .i64 r183.2.L.a1.Rect.Y1, lb r183.2.L.a2.On, li .i64 r183.2.L.a2.Session, li .i64 r183.2.L.a2.Start, li .i64 r183.2.L.a2.Rect.X0, li .i64 r183.2.L.a2.Rect.Y0, li .i64 r183.2.L.a2.Rect.X1, li .i64 r183.2.L.a2.Rect.Y1, lb r183.2.L.a3.On, li .i64 r183.2.L.a3.Session, li .i64 r183.2.L.a3.Start, li .i64 r183.2.L.a3.Rect.X0, li .i64 r183.2.L.a3.Rect.Y0, li .i64 r183.2.L.a3.Rect.X1, li .i64 r183.2.L.a3.Rect.Y1]))]) (by kernel_rfl) (fun r183 hr => pOp_eff (by kernel_rfl) (by kernel_rfl) (eff_callp (ARGS := [.one (.ptr 21 0), .agg [li .i64 x181.C.Kind, li .i64 x181.C.ID, li .i64 x181.C.Which, li .i64 x181.C.To, li .i64 x181.C.At.X, li .i64 x181.C.At.Y, li .i64 x181.C.F.a0.N, ls x181.C.F.a0.Text, li .i64 x181.C.F.a1.N, ls x181.C.F.a1.Text, li .i64 x181.C.F.a2.N, ls x181.C.F.a2.Text, li .i64 x181.C.F.a3.N, ls x181.C.F.a3.Text, li .i64 x181.C.Value.N, ls x181.C.Value.Text, li .i64 x181.C.Client, li .i64 x181.C.Session, li .i64 x181.C.Rect.X0, li .i64 x181.C.Rect.Y0, li .i64 x181.C.Rect.X1, li .i64 x181.C.Rect.Y1], .one (li .i64 x182.Beat)]) (ARGS' := [.one (.ptr 1000000 0), .agg [li .i64 x181.C.Kind, li .i64 x181.C.ID, li .i64 x181.C.Which, li .i64 x181.C.To, li .i64 x181.C.At.X, li .i64 x181.C.At.Y, li .i64 x181.C.F.a0.N, ls x181.C.F.a0.Text, li .i64 x181.C.F.a1.N, ls x181.C.F.a1.Text, li .i64 x181.C.F.a2.N, ls x181.C.F.a2.Text, li .i64 x181.C.F.a3.N, ls x181.C.F.a3.Text, li .i64 x181.C.Value.N, ls x181.C.Value.Text, li .i64 x181.C.Client, li .i64 x181.C.Session, li .i64 x181.C.Rect.X0, li .i64 x181.C.Rect.Y0, li .i64 x181.C.Rect.X1, li .i64 x181.C.Rect.Y1], .one (li .i64 x182.Beat)]) (ks := [21]) (os := [[lb b118, li .i64 i119, li .i64 i120, li .i64 i121, li .i64 i122, li .i64 i123, li .i64 i124, lb b125, li .i64 i126, li .i64 i127, li .i64 i128, li .i64 i129, li .i64 i130, li .i64 i131, lb b132, li .i64 i133, li .i64 i134, li .i64 i135, li .i64 i136, li .i64 i137, li .i64 i138, lb b139, li .i64 i140, li .i64 i141, li .i64 i142, li .i64 i143, li .i64 i144, li .i64 i145]]) (os' := [[lb r183.2.L.a0.On, li .i64 r183.2.L.a0.Session, li .i64 r183.2.L.a0.Start, li .i64 r183.2.L.a0.Rect.X0, li .i64 r183.2.L.a0.Rect.Y0, li .i64 r183.2.L.a0.Rect.X1, li .i64 r183.2.L.a0.Rect.Y1, lb r183.2.L.a1.On, li .i64 r183.2.L.a1.Session, li .i64 r183.2.L.a1.Start, li .i64 r183.2.L.a1.Rect.X0, li .i64 r183.2.L.a1.Rect.Y0, li .i64 r183.2.L.a1.Rect.X1, li .i64 r183.2.L.a1.Rect.Y1, lb r183.2.L.a2.On, li .i64 r183.2.L.a2.Session, li .i64 r183.2.L.a2.Start, li .i64 r183.2.L.a2.Rect.X0, li .i64 r183.2.L.a2.Rect.Y0, li .i64 r183.2.L.a2.Rect.X1, li .i64 r183.2.L.a2.Rect.Y1, lb r183.2.L.a3.On, li .i64 r183.2.L.a3.Session, li .i64 r183.2.L.a3.Start, li .i64 r183.2.L.a3.Rect.X0, li .i64 r183.2.L.a3.Rect.Y0, li .i64 r183.2.L.a3.Rect.X1, li .i64 r183.2.L.a3.Rect.Y1]]) (by kernel_rfl) (args_ptr (by kernel_rfl) (args_clean (by kernel_rfl) (args_clean (by kernel_rfl) args_nil))) rfl (by kernel_rfl) (F40_ok n (Book_vedetteref13.mk (A4.mk (Watch.mk b118 i119 i120 (Rect.mk i121 i122 i123 i124)) (Watch.mk b125 i126 i127 (Rect.mk i128 i129 i130 i131)) (Watch.mk b132 i133 i134 (Rect.mk i135 i136 i137 i138)) (Watch.mk b139 i140 i141 (Rect.mk i142 i143 i144 i145)))) x181.C x182.Beat r183 hr) (by kernel_rfl) (by kernel_rfl))) (fun r183 => ?_)
        refine SimI.run 1 [(61, .one (lb (r180.1 != r183.1)))] [] (by kernel_rfl) ?_
        refine SimI.done (by kernel_rfl) ?_
        refine SimE.thenN ?_
        refine Sim.cond (r180.1 != r183.1) (by kernel_rfl) ?_ ?_
        · refine Sim.seq ?_
          refine Sim.region0 ?_
          refine SimI.run 1 [(8, .one (lb false))] [] (by kernel_rfl) ?_
          refine SimI.done (by kernel_rfl) ?_
          refine SimE.thenN ?_
          refine Sim.ret ?_
          refine SimE.thenR ?_
          refine SimE.blockR ?_
          refine SimE.thenR ?_
          refine SimE.loopR ?_
          refine SimE.blockR ?_
          refine SimE.thenR ?_
          exact SimE.fin (by kernel_rfl)
        · refine Sim.skip ?_
          refine SimE.thenN ?_
          refine Sim.seq ?_
          refine Sim.region0 ?_
          refine SimI.run 2 [(63, .agg [li .i64 6, li .i64 0, li .i64 0, li .i64 0, li .i64 0, li .i64 0, li .i64 0, ls ByteArray.empty, li .i64 0, ls ByteArray.empty, li .i64 0, ls ByteArray.empty, li .i64 0, ls ByteArray.empty, li .i64 0, ls ByteArray.empty, li .i64 0, li .i64 999999, li .i64 0, li .i64 0, li .i64 0, li .i64 0]), (62, .one (.ptr 300001 0))] [] (by kernel_rfl) ?_
          refine SimI.bind (og := F39 n r177.1 (Command.mk 6 0 0 0 (Point.mk 0 0) (A4.mk (Field.mk 0 ByteArray.empty) (Field.mk 0 ByteArray.empty) (Field.mk 0 ByteArray.empty) (Field.mk 0 ByteArray.empty)) (Field.mk 0 ByteArray.empty) 0 999999 (Rect.mk 0 0 0 0)) 5) { dst := some 64, op := POp.call true [[], [], []] 39 [Operand.tmp 62, Operand.tmp 63, Operand.const (Value.int IntKind.i64 5)], guard := none, hints := [] } (fun r184 => [(64, .one (li .i64 r184.1))]) (fun r184 => [(300001, some (.cells [lb r184.2.l.a0.On, li .i64 r184.2.l.a0.Session, li .i64 r184.2.l.a0.Start, li .i64 r184.2.l.a0.Rect.X0, li .i64 r184.2.l.a0.Rect.Y0, li .i64 r184.2.l.a0.Rect.X1, li .i64 r184.2.l.a0.Rect.Y1, lb r184.2.l.a1.On, li .i64 r184.2.l.a1.Session, li .i64 r184.2.l.a1.Start, li .i64 r184.2.l.a1.Rect.X0, li .i64 r184.2.l.a1.Rect.Y0, li .i64 r184.2.l.a1.Rect.X1, li .i64 r184.2.l.a1.Rect.Y1, lb r184.2.l.a2.On, li .i64 r184.2.l.a2.Session, li .i64 r184.2.l.a2.Start, li .i64 r184.2.l.a2.Rect.X0, li .i64 r184.2.l.a2.Rect.Y0, li .i64 r184.2.l.a2.Rect.X1, li .i64 r184.2.l.a2.Rect.Y1, lb r184.2.l.a3.On, li .i64 r184.2.l.a3.Session, li .i64 r184.2.l.a3.Start, li .i64 r184.2.l.a3.Rect.X0, li .i64 r184.2.l.a3.Rect.Y0, li .i64 r184.2.l.a3.Rect.X1, li .i64 r184.2.l.a3.Rect.Y1]))]) (by kernel_rfl) (fun r184 hr => pOp_eff (by kernel_rfl) (by kernel_rfl) (eff_callp (ARGS := [.one (.ptr 300001 0), .agg [li .i64 6, li .i64 0, li .i64 0, li .i64 0, li .i64 0, li .i64 0, li .i64 0, ls ByteArray.empty, li .i64 0, ls ByteArray.empty, li .i64 0, ls ByteArray.empty, li .i64 0, ls ByteArray.empty, li .i64 0, ls ByteArray.empty, li .i64 0, li .i64 999999, li .i64 0, li .i64 0, li .i64 0, li .i64 0], .one (li .i64 5)]) (ARGS' := [.one (.ptr 1000000 0), .agg [li .i64 6, li .i64 0, li .i64 0, li .i64 0, li .i64 0, li .i64 0, li .i64 0, ls ByteArray.empty, li .i64 0, ls ByteArray.empty, li .i64 0, ls ByteArray.empty, li .i64 0, ls ByteArray.empty, li .i64 0, ls ByteArray.empty, li .i64 0, li .i64 999999, li .i64 0, li .i64 0, li .i64 0, li .i64 0], .one (li .i64 5)]) (ks := [300001]) (os := [[lb r177.1.l.a0.On, li .i64 r177.1.l.a0.Session, li .i64 r177.1.l.a0.Start, li .i64 r177.1.l.a0.Rect.X0, li .i64 r177.1.l.a0.Rect.Y0, li .i64 r177.1.l.a0.Rect.X1, li .i64 r177.1.l.a0.Rect.Y1, lb r177.1.l.a1.On, li .i64 r177.1.l.a1.Session, li .i64 r177.1.l.a1.Start, li .i64 r177.1.l.a1.Rect.X0, li .i64 r177.1.l.a1.Rect.Y0, li .i64 r177.1.l.a1.Rect.X1, li .i64 r177.1.l.a1.Rect.Y1, lb r177.1.l.a2.On, li .i64 r177.1.l.a2.Session, li .i64 r177.1.l.a2.Start, li .i64 r177.1.l.a2.Rect.X0, li .i64 r177.1.l.a2.Rect.Y0, li .i64 r177.1.l.a2.Rect.X1, li .i64 r177.1.l.a2.Rect.Y1, lb r177.1.l.a3.On, li .i64 r177.1.l.a3.Session, li .i64 r177.1.l.a3.Start, li .i64 r177.1.l.a3.Rect.X0, li .i64 r177.1.l.a3.Rect.Y0, li .i64 r177.1.l.a3.Rect.X1, li .i64 r177.1.l.a3.Rect.Y1]]) (os' := [[lb r184.2.l.a0.On, li .i64 r184.2.l.a0.Session, li .i64 r184.2.l.a0.Start, li .i64 r184.2.l.a0.Rect.X0, li .i64 r184.2.l.a0.Rect.Y0, li .i64 r184.2.l.a0.Rect.X1, li .i64 r184.2.l.a0.Rect.Y1, lb r184.2.l.a1.On, li .i64 r184.2.l.a1.Session, li .i64 r184.2.l.a1.Start, li .i64 r184.2.l.a1.Rect.X0, li .i64 r184.2.l.a1.Rect.Y0, li .i64 r184.2.l.a1.Rect.X1, li .i64 r184.2.l.a1.Rect.Y1, lb r184.2.l.a2.On, li .i64 r184.2.l.a2.Session, li .i64 r184.2.l.a2.Start, li .i64 r184.2.l.a2.Rect.X0, li .i64 r184.2.l.a2.Rect.Y0, li .i64 r184.2.l.a2.Rect.X1, li .i64 r184.2.l.a2.Rect.Y1, lb r184.2.l.a3.On, li .i64 r184.2.l.a3.Session, li .i64 r184.2.l.a3.Start, li .i64 r184.2.l.a3.Rect.X0, li .i64 r184.2.l.a3.Rect.Y0, li .i64 r184.2.l.a3.Rect.X1, li .i64 r184.2.l.a3.Rect.Y1]]) (by kernel_rfl) (args_ptr (by kernel_rfl) (args_clean (by kernel_rfl) (args_clean (by kernel_rfl) args_nil))) rfl (by kernel_rfl) (F39_ok n r177.1 (Command.mk 6 0 0 0 (Point.mk 0 0) (A4.mk (Field.mk 0 ByteArray.empty) (Field.mk 0 ByteArray.empty) (Field.mk 0 ByteArray.empty) (Field.mk 0 ByteArray.empty)) (Field.mk 0 ByteArray.empty) 0 999999 (Rect.mk 0 0 0 0)) 5 r184 hr) (by kernel_rfl) (by kernel_rfl))) (fun r184 => ?_)
          refine SimI.done (by kernel_rfl) ?_
          refine SimE.thenN ?_
          refine Sim.seq ?_
          refine Sim.region0 ?_
          refine SimI.run 3 [(13, .one (.ptr 13 0)), (65, .agg [lb false, li .i64 0, li .i64 0, li .i64 0, li .i64 0, li .i64 0, li .i64 0])] [(13, some (.cells [lb false, li .i64 0, li .i64 0, li .i64 0, li .i64 0, li .i64 0, li .i64 0])), (13, some (.cells [lb false, li .i64 0, li .i64 0, li .i64 0, li .i64 0, li .i64 0, li .i64 0]))] (by kernel_rfl) ?_
          refine SimI.done (by kernel_rfl) ?_
          refine SimE.thenN ?_
          refine Sim.seq ?_
          refine Sim.seq ?_
          refine Sim.region0 ?_
          refine SimI.run 3 [(68, .one (lb (decide ((0 : Int) ≤ a2)))), (67, .one (lb (decide ((0 : Int) ≤ a2)))), (66, .one (li .i64 a2))] [] (by kernel_rfl) ?_
          refine SimI.split 68 (decide ((0 : Int) ≤ a2)) (by kernel_rfl) ?_ ?_
          · refine SimI.run 3 [(71, .one (lb (decide (a2 < 4)))), (70, .one (lb (decide (a2 < 4)))), (69, .one (li .i64 a2))] [] (by kernel_rfl) ?_
            refine SimI.done (by kernel_rfl) ?_
            refine SimE.thenN ?_
            refine Sim.cond (decide (a2 < 4)) (by kernel_rfl) ?_ ?_
            · refine Sim.region0 ?_
              refine SimI.run 4 [(75, .one (.ptr 21 0)), (74, .one (.ptr 21 0)), (73, .one (li .i64 a2)), (72, .one (.ptr 21 0))] [] (by kernel_rfl) ?_
              refine SimI.casei 73 .i64 a2 0 (by kernel_rfl) ?_ ?_
              · refine SimI.run 3 [(77, .agg [lb r183.2.L.a0.On, li .i64 r183.2.L.a0.Session, li .i64 r183.2.L.a0.Start, li .i64 r183.2.L.a0.Rect.X0, li .i64 r183.2.L.a0.Rect.Y0, li .i64 r183.2.L.a0.Rect.X1, li .i64 r183.2.L.a0.Rect.Y1]), (76, .one (.ptr 21 0))] [(13, some (.cells [lb r183.2.L.a0.On, li .i64 r183.2.L.a0.Session, li .i64 r183.2.L.a0.Start, li .i64 r183.2.L.a0.Rect.X0, li .i64 r183.2.L.a0.Rect.Y0, li .i64 r183.2.L.a0.Rect.X1, li .i64 r183.2.L.a0.Rect.Y1]))] (by kernel_rfl) ?_
                refine SimI.done (by kernel_rfl) ?_
                refine SimE.thenN ?_
                refine Sim.pre (ts := [0, 2, 5, 7, 9, 10, 11, 13]) (os := [5, 7, 13, 21, 300000, 300001]) (ow := []) [(0, .one (vw Step.cod a0)), (2, .one (li .i64 a2)), (5, .one (.ptr 5 0)), (7, .one (.ptr 7 0)), (9, .one (.ptr 300000 0)), (10, .one (.ptr 21 0)), (11, .one (li .i64 i117)), (13, .one (.ptr 13 0))] [(5, some (.cells [li .i64 a1.X, li .i64 a1.Y])), (7, some (.cells [li .i64 a3.X0, li .i64 a3.Y0, li .i64 a3.X1, li .i64 a3.Y1])), (13, some (.cells [lb r183.2.L.a0.On, li .i64 r183.2.L.a0.Session, li .i64 r183.2.L.a0.Start, li .i64 r183.2.L.a0.Rect.X0, li .i64 r183.2.L.a0.Rect.Y0, li .i64 r183.2.L.a0.Rect.X1, li .i64 r183.2.L.a0.Rect.Y1])), (21, some (.cells [lb r183.2.L.a0.On, li .i64 r183.2.L.a0.Session, li .i64 r183.2.L.a0.Start, li .i64 r183.2.L.a0.Rect.X0, li .i64 r183.2.L.a0.Rect.Y0, li .i64 r183.2.L.a0.Rect.X1, li .i64 r183.2.L.a0.Rect.Y1, lb r183.2.L.a1.On, li .i64 r183.2.L.a1.Session, li .i64 r183.2.L.a1.Start, li .i64 r183.2.L.a1.Rect.X0, li .i64 r183.2.L.a1.Rect.Y0, li .i64 r183.2.L.a1.Rect.X1, li .i64 r183.2.L.a1.Rect.Y1, lb r183.2.L.a2.On, li .i64 r183.2.L.a2.Session, li .i64 r183.2.L.a2.Start, li .i64 r183.2.L.a2.Rect.X0, li .i64 r183.2.L.a2.Rect.Y0, li .i64 r183.2.L.a2.Rect.X1, li .i64 r183.2.L.a2.Rect.Y1, lb r183.2.L.a3.On, li .i64 r183.2.L.a3.Session, li .i64 r183.2.L.a3.Start, li .i64 r183.2.L.a3.Rect.X0, li .i64 r183.2.L.a3.Rect.Y0, li .i64 r183.2.L.a3.Rect.X1, li .i64 r183.2.L.a3.Rect.Y1])), (300000, some (.cells [lb r180.2.l.a0.On, li .i64 r180.2.l.a0.Session, li .i64 r180.2.l.a0.Start, li .i64 r180.2.l.a0.Rect.X0, li .i64 r180.2.l.a0.Rect.Y0, li .i64 r180.2.l.a0.Rect.X1, li .i64 r180.2.l.a0.Rect.Y1, lb r180.2.l.a1.On, li .i64 r180.2.l.a1.Session, li .i64 r180.2.l.a1.Start, li .i64 r180.2.l.a1.Rect.X0, li .i64 r180.2.l.a1.Rect.Y0, li .i64 r180.2.l.a1.Rect.X1, li .i64 r180.2.l.a1.Rect.Y1, lb r180.2.l.a2.On, li .i64 r180.2.l.a2.Session, li .i64 r180.2.l.a2.Start, li .i64 r180.2.l.a2.Rect.X0, li .i64 r180.2.l.a2.Rect.Y0, li .i64 r180.2.l.a2.Rect.X1, li .i64 r180.2.l.a2.Rect.Y1, lb r180.2.l.a3.On, li .i64 r180.2.l.a3.Session, li .i64 r180.2.l.a3.Start, li .i64 r180.2.l.a3.Rect.X0, li .i64 r180.2.l.a3.Rect.Y0, li .i64 r180.2.l.a3.Rect.X1, li .i64 r180.2.l.a3.Rect.Y1]))] (by kernel_rfl) (by kernel_rfl) (by kernel_rfl) ?_
                exact F11_j192_ok n a0 a1 a2 a3 i117 r180 r183 (F11_l174 n a0 a1 a2 a3 m_l174) m_l174 ih_l174 r183.2.L.a0.On r183.2.L.a0.Session r183.2.L.a0.Start r183.2.L.a0.Rect.X0 r183.2.L.a0.Rect.Y0 r183.2.L.a0.Rect.X1 r183.2.L.a0.Rect.Y1
              · refine SimI.casei 73 .i64 a2 1 (by kernel_rfl) ?_ ?_
                · refine SimI.run 3 [(77, .agg [lb r183.2.L.a1.On, li .i64 r183.2.L.a1.Session, li .i64 r183.2.L.a1.Start, li .i64 r183.2.L.a1.Rect.X0, li .i64 r183.2.L.a1.Rect.Y0, li .i64 r183.2.L.a1.Rect.X1, li .i64 r183.2.L.a1.Rect.Y1]), (76, .one (.ptr 21 7))] [(13, some (.cells [lb r183.2.L.a1.On, li .i64 r183.2.L.a1.Session, li .i64 r183.2.L.a1.Start, li .i64 r183.2.L.a1.Rect.X0, li .i64 r183.2.L.a1.Rect.Y0, li .i64 r183.2.L.a1.Rect.X1, li .i64 r183.2.L.a1.Rect.Y1]))] (by kernel_rfl) ?_
                  refine SimI.done (by kernel_rfl) ?_
                  refine SimE.thenN ?_
                  refine Sim.pre (ts := [0, 2, 5, 7, 9, 10, 11, 13]) (os := [5, 7, 13, 21, 300000, 300001]) (ow := []) [(0, .one (vw Step.cod a0)), (2, .one (li .i64 a2)), (5, .one (.ptr 5 0)), (7, .one (.ptr 7 0)), (9, .one (.ptr 300000 0)), (10, .one (.ptr 21 0)), (11, .one (li .i64 i117)), (13, .one (.ptr 13 0))] [(5, some (.cells [li .i64 a1.X, li .i64 a1.Y])), (7, some (.cells [li .i64 a3.X0, li .i64 a3.Y0, li .i64 a3.X1, li .i64 a3.Y1])), (13, some (.cells [lb r183.2.L.a1.On, li .i64 r183.2.L.a1.Session, li .i64 r183.2.L.a1.Start, li .i64 r183.2.L.a1.Rect.X0, li .i64 r183.2.L.a1.Rect.Y0, li .i64 r183.2.L.a1.Rect.X1, li .i64 r183.2.L.a1.Rect.Y1])), (21, some (.cells [lb r183.2.L.a0.On, li .i64 r183.2.L.a0.Session, li .i64 r183.2.L.a0.Start, li .i64 r183.2.L.a0.Rect.X0, li .i64 r183.2.L.a0.Rect.Y0, li .i64 r183.2.L.a0.Rect.X1, li .i64 r183.2.L.a0.Rect.Y1, lb r183.2.L.a1.On, li .i64 r183.2.L.a1.Session, li .i64 r183.2.L.a1.Start, li .i64 r183.2.L.a1.Rect.X0, li .i64 r183.2.L.a1.Rect.Y0, li .i64 r183.2.L.a1.Rect.X1, li .i64 r183.2.L.a1.Rect.Y1, lb r183.2.L.a2.On, li .i64 r183.2.L.a2.Session, li .i64 r183.2.L.a2.Start, li .i64 r183.2.L.a2.Rect.X0, li .i64 r183.2.L.a2.Rect.Y0, li .i64 r183.2.L.a2.Rect.X1, li .i64 r183.2.L.a2.Rect.Y1, lb r183.2.L.a3.On, li .i64 r183.2.L.a3.Session, li .i64 r183.2.L.a3.Start, li .i64 r183.2.L.a3.Rect.X0, li .i64 r183.2.L.a3.Rect.Y0, li .i64 r183.2.L.a3.Rect.X1, li .i64 r183.2.L.a3.Rect.Y1])), (300000, some (.cells [lb r180.2.l.a0.On, li .i64 r180.2.l.a0.Session, li .i64 r180.2.l.a0.Start, li .i64 r180.2.l.a0.Rect.X0, li .i64 r180.2.l.a0.Rect.Y0, li .i64 r180.2.l.a0.Rect.X1, li .i64 r180.2.l.a0.Rect.Y1, lb r180.2.l.a1.On, li .i64 r180.2.l.a1.Session, li .i64 r180.2.l.a1.Start, li .i64 r180.2.l.a1.Rect.X0, li .i64 r180.2.l.a1.Rect.Y0, li .i64 r180.2.l.a1.Rect.X1, li .i64 r180.2.l.a1.Rect.Y1, lb r180.2.l.a2.On, li .i64 r180.2.l.a2.Session, li .i64 r180.2.l.a2.Start, li .i64 r180.2.l.a2.Rect.X0, li .i64 r180.2.l.a2.Rect.Y0, li .i64 r180.2.l.a2.Rect.X1, li .i64 r180.2.l.a2.Rect.Y1, lb r180.2.l.a3.On, li .i64 r180.2.l.a3.Session, li .i64 r180.2.l.a3.Start, li .i64 r180.2.l.a3.Rect.X0, li .i64 r180.2.l.a3.Rect.Y0, li .i64 r180.2.l.a3.Rect.X1, li .i64 r180.2.l.a3.Rect.Y1]))] (by kernel_rfl) (by kernel_rfl) (by kernel_rfl) ?_
                  exact F11_j192_ok n a0 a1 a2 a3 i117 r180 r183 (F11_l174 n a0 a1 a2 a3 m_l174) m_l174 ih_l174 r183.2.L.a1.On r183.2.L.a1.Session r183.2.L.a1.Start r183.2.L.a1.Rect.X0 r183.2.L.a1.Rect.Y0 r183.2.L.a1.Rect.X1 r183.2.L.a1.Rect.Y1
                · refine SimI.casei 73 .i64 a2 2 (by kernel_rfl) ?_ ?_
                  · refine SimI.run 3 [(77, .agg [lb r183.2.L.a2.On, li .i64 r183.2.L.a2.Session, li .i64 r183.2.L.a2.Start, li .i64 r183.2.L.a2.Rect.X0, li .i64 r183.2.L.a2.Rect.Y0, li .i64 r183.2.L.a2.Rect.X1, li .i64 r183.2.L.a2.Rect.Y1]), (76, .one (.ptr 21 14))] [(13, some (.cells [lb r183.2.L.a2.On, li .i64 r183.2.L.a2.Session, li .i64 r183.2.L.a2.Start, li .i64 r183.2.L.a2.Rect.X0, li .i64 r183.2.L.a2.Rect.Y0, li .i64 r183.2.L.a2.Rect.X1, li .i64 r183.2.L.a2.Rect.Y1]))] (by kernel_rfl) ?_
                    refine SimI.done (by kernel_rfl) ?_
                    refine SimE.thenN ?_
                    refine Sim.pre (ts := [0, 2, 5, 7, 9, 10, 11, 13]) (os := [5, 7, 13, 21, 300000, 300001]) (ow := []) [(0, .one (vw Step.cod a0)), (2, .one (li .i64 a2)), (5, .one (.ptr 5 0)), (7, .one (.ptr 7 0)), (9, .one (.ptr 300000 0)), (10, .one (.ptr 21 0)), (11, .one (li .i64 i117)), (13, .one (.ptr 13 0))] [(5, some (.cells [li .i64 a1.X, li .i64 a1.Y])), (7, some (.cells [li .i64 a3.X0, li .i64 a3.Y0, li .i64 a3.X1, li .i64 a3.Y1])), (13, some (.cells [lb r183.2.L.a2.On, li .i64 r183.2.L.a2.Session, li .i64 r183.2.L.a2.Start, li .i64 r183.2.L.a2.Rect.X0, li .i64 r183.2.L.a2.Rect.Y0, li .i64 r183.2.L.a2.Rect.X1, li .i64 r183.2.L.a2.Rect.Y1])), (21, some (.cells [lb r183.2.L.a0.On, li .i64 r183.2.L.a0.Session, li .i64 r183.2.L.a0.Start, li .i64 r183.2.L.a0.Rect.X0, li .i64 r183.2.L.a0.Rect.Y0, li .i64 r183.2.L.a0.Rect.X1, li .i64 r183.2.L.a0.Rect.Y1, lb r183.2.L.a1.On, li .i64 r183.2.L.a1.Session, li .i64 r183.2.L.a1.Start, li .i64 r183.2.L.a1.Rect.X0, li .i64 r183.2.L.a1.Rect.Y0, li .i64 r183.2.L.a1.Rect.X1, li .i64 r183.2.L.a1.Rect.Y1, lb r183.2.L.a2.On, li .i64 r183.2.L.a2.Session, li .i64 r183.2.L.a2.Start, li .i64 r183.2.L.a2.Rect.X0, li .i64 r183.2.L.a2.Rect.Y0, li .i64 r183.2.L.a2.Rect.X1, li .i64 r183.2.L.a2.Rect.Y1, lb r183.2.L.a3.On, li .i64 r183.2.L.a3.Session, li .i64 r183.2.L.a3.Start, li .i64 r183.2.L.a3.Rect.X0, li .i64 r183.2.L.a3.Rect.Y0, li .i64 r183.2.L.a3.Rect.X1, li .i64 r183.2.L.a3.Rect.Y1])), (300000, some (.cells [lb r180.2.l.a0.On, li .i64 r180.2.l.a0.Session, li .i64 r180.2.l.a0.Start, li .i64 r180.2.l.a0.Rect.X0, li .i64 r180.2.l.a0.Rect.Y0, li .i64 r180.2.l.a0.Rect.X1, li .i64 r180.2.l.a0.Rect.Y1, lb r180.2.l.a1.On, li .i64 r180.2.l.a1.Session, li .i64 r180.2.l.a1.Start, li .i64 r180.2.l.a1.Rect.X0, li .i64 r180.2.l.a1.Rect.Y0, li .i64 r180.2.l.a1.Rect.X1, li .i64 r180.2.l.a1.Rect.Y1, lb r180.2.l.a2.On, li .i64 r180.2.l.a2.Session, li .i64 r180.2.l.a2.Start, li .i64 r180.2.l.a2.Rect.X0, li .i64 r180.2.l.a2.Rect.Y0, li .i64 r180.2.l.a2.Rect.X1, li .i64 r180.2.l.a2.Rect.Y1, lb r180.2.l.a3.On, li .i64 r180.2.l.a3.Session, li .i64 r180.2.l.a3.Start, li .i64 r180.2.l.a3.Rect.X0, li .i64 r180.2.l.a3.Rect.Y0, li .i64 r180.2.l.a3.Rect.X1, li .i64 r180.2.l.a3.Rect.Y1]))] (by kernel_rfl) (by kernel_rfl) (by kernel_rfl) ?_
                    exact F11_j192_ok n a0 a1 a2 a3 i117 r180 r183 (F11_l174 n a0 a1 a2 a3 m_l174) m_l174 ih_l174 r183.2.L.a2.On r183.2.L.a2.Session r183.2.L.a2.Start r183.2.L.a2.Rect.X0 r183.2.L.a2.Rect.Y0 r183.2.L.a2.Rect.X1 r183.2.L.a2.Rect.Y1
                  · refine SimI.casei 73 .i64 a2 3 (by kernel_rfl) ?_ ?_
                    · refine SimI.run 3 [(77, .agg [lb r183.2.L.a3.On, li .i64 r183.2.L.a3.Session, li .i64 r183.2.L.a3.Start, li .i64 r183.2.L.a3.Rect.X0, li .i64 r183.2.L.a3.Rect.Y0, li .i64 r183.2.L.a3.Rect.X1, li .i64 r183.2.L.a3.Rect.Y1]), (76, .one (.ptr 21 21))] [(13, some (.cells [lb r183.2.L.a3.On, li .i64 r183.2.L.a3.Session, li .i64 r183.2.L.a3.Start, li .i64 r183.2.L.a3.Rect.X0, li .i64 r183.2.L.a3.Rect.Y0, li .i64 r183.2.L.a3.Rect.X1, li .i64 r183.2.L.a3.Rect.Y1]))] (by kernel_rfl) ?_
                      refine SimI.done (by kernel_rfl) ?_
                      refine SimE.thenN ?_
                      refine Sim.pre (ts := [0, 2, 5, 7, 9, 10, 11, 13]) (os := [5, 7, 13, 21, 300000, 300001]) (ow := []) [(0, .one (vw Step.cod a0)), (2, .one (li .i64 a2)), (5, .one (.ptr 5 0)), (7, .one (.ptr 7 0)), (9, .one (.ptr 300000 0)), (10, .one (.ptr 21 0)), (11, .one (li .i64 i117)), (13, .one (.ptr 13 0))] [(5, some (.cells [li .i64 a1.X, li .i64 a1.Y])), (7, some (.cells [li .i64 a3.X0, li .i64 a3.Y0, li .i64 a3.X1, li .i64 a3.Y1])), (13, some (.cells [lb r183.2.L.a3.On, li .i64 r183.2.L.a3.Session, li .i64 r183.2.L.a3.Start, li .i64 r183.2.L.a3.Rect.X0, li .i64 r183.2.L.a3.Rect.Y0, li .i64 r183.2.L.a3.Rect.X1, li .i64 r183.2.L.a3.Rect.Y1])), (21, some (.cells [lb r183.2.L.a0.On, li .i64 r183.2.L.a0.Session, li .i64 r183.2.L.a0.Start, li .i64 r183.2.L.a0.Rect.X0, li .i64 r183.2.L.a0.Rect.Y0, li .i64 r183.2.L.a0.Rect.X1, li .i64 r183.2.L.a0.Rect.Y1, lb r183.2.L.a1.On, li .i64 r183.2.L.a1.Session, li .i64 r183.2.L.a1.Start, li .i64 r183.2.L.a1.Rect.X0, li .i64 r183.2.L.a1.Rect.Y0, li .i64 r183.2.L.a1.Rect.X1, li .i64 r183.2.L.a1.Rect.Y1, lb r183.2.L.a2.On, li .i64 r183.2.L.a2.Session, li .i64 r183.2.L.a2.Start, li .i64 r183.2.L.a2.Rect.X0, li .i64 r183.2.L.a2.Rect.Y0, li .i64 r183.2.L.a2.Rect.X1, li .i64 r183.2.L.a2.Rect.Y1, lb r183.2.L.a3.On, li .i64 r183.2.L.a3.Session, li .i64 r183.2.L.a3.Start, li .i64 r183.2.L.a3.Rect.X0, li .i64 r183.2.L.a3.Rect.Y0, li .i64 r183.2.L.a3.Rect.X1, li .i64 r183.2.L.a3.Rect.Y1])), (300000, some (.cells [lb r180.2.l.a0.On, li .i64 r180.2.l.a0.Session, li .i64 r180.2.l.a0.Start, li .i64 r180.2.l.a0.Rect.X0, li .i64 r180.2.l.a0.Rect.Y0, li .i64 r180.2.l.a0.Rect.X1, li .i64 r180.2.l.a0.Rect.Y1, lb r180.2.l.a1.On, li .i64 r180.2.l.a1.Session, li .i64 r180.2.l.a1.Start, li .i64 r180.2.l.a1.Rect.X0, li .i64 r180.2.l.a1.Rect.Y0, li .i64 r180.2.l.a1.Rect.X1, li .i64 r180.2.l.a1.Rect.Y1, lb r180.2.l.a2.On, li .i64 r180.2.l.a2.Session, li .i64 r180.2.l.a2.Start, li .i64 r180.2.l.a2.Rect.X0, li .i64 r180.2.l.a2.Rect.Y0, li .i64 r180.2.l.a2.Rect.X1, li .i64 r180.2.l.a2.Rect.Y1, lb r180.2.l.a3.On, li .i64 r180.2.l.a3.Session, li .i64 r180.2.l.a3.Start, li .i64 r180.2.l.a3.Rect.X0, li .i64 r180.2.l.a3.Rect.Y0, li .i64 r180.2.l.a3.Rect.X1, li .i64 r180.2.l.a3.Rect.Y1]))] (by kernel_rfl) (by kernel_rfl) (by kernel_rfl) ?_
                      exact F11_j192_ok n a0 a1 a2 a3 i117 r180 r183 (F11_l174 n a0 a1 a2 a3 m_l174) m_l174 ih_l174 r183.2.L.a3.On r183.2.L.a3.Session r183.2.L.a3.Start r183.2.L.a3.Rect.X0 r183.2.L.a3.Rect.Y0 r183.2.L.a3.Rect.X1 r183.2.L.a3.Rect.Y1
                    · exact SimI.vac rfl
            · refine Sim.skip ?_
              refine SimE.thenN ?_
              refine Sim.pre (ts := [0, 2, 5, 7, 9, 10, 11, 13]) (os := [5, 7, 13, 21, 300000, 300001]) (ow := []) [(0, .one (vw Step.cod a0)), (2, .one (li .i64 a2)), (5, .one (.ptr 5 0)), (7, .one (.ptr 7 0)), (9, .one (.ptr 300000 0)), (10, .one (.ptr 21 0)), (11, .one (li .i64 i117)), (13, .one (.ptr 13 0))] [(5, some (.cells [li .i64 a1.X, li .i64 a1.Y])), (7, some (.cells [li .i64 a3.X0, li .i64 a3.Y0, li .i64 a3.X1, li .i64 a3.Y1])), (13, some (.cells [lb false, li .i64 0, li .i64 0, li .i64 0, li .i64 0, li .i64 0, li .i64 0])), (21, some (.cells [lb r183.2.L.a0.On, li .i64 r183.2.L.a0.Session, li .i64 r183.2.L.a0.Start, li .i64 r183.2.L.a0.Rect.X0, li .i64 r183.2.L.a0.Rect.Y0, li .i64 r183.2.L.a0.Rect.X1, li .i64 r183.2.L.a0.Rect.Y1, lb r183.2.L.a1.On, li .i64 r183.2.L.a1.Session, li .i64 r183.2.L.a1.Start, li .i64 r183.2.L.a1.Rect.X0, li .i64 r183.2.L.a1.Rect.Y0, li .i64 r183.2.L.a1.Rect.X1, li .i64 r183.2.L.a1.Rect.Y1, lb r183.2.L.a2.On, li .i64 r183.2.L.a2.Session, li .i64 r183.2.L.a2.Start, li .i64 r183.2.L.a2.Rect.X0, li .i64 r183.2.L.a2.Rect.Y0, li .i64 r183.2.L.a2.Rect.X1, li .i64 r183.2.L.a2.Rect.Y1, lb r183.2.L.a3.On, li .i64 r183.2.L.a3.Session, li .i64 r183.2.L.a3.Start, li .i64 r183.2.L.a3.Rect.X0, li .i64 r183.2.L.a3.Rect.Y0, li .i64 r183.2.L.a3.Rect.X1, li .i64 r183.2.L.a3.Rect.Y1])), (300000, some (.cells [lb r180.2.l.a0.On, li .i64 r180.2.l.a0.Session, li .i64 r180.2.l.a0.Start, li .i64 r180.2.l.a0.Rect.X0, li .i64 r180.2.l.a0.Rect.Y0, li .i64 r180.2.l.a0.Rect.X1, li .i64 r180.2.l.a0.Rect.Y1, lb r180.2.l.a1.On, li .i64 r180.2.l.a1.Session, li .i64 r180.2.l.a1.Start, li .i64 r180.2.l.a1.Rect.X0, li .i64 r180.2.l.a1.Rect.Y0, li .i64 r180.2.l.a1.Rect.X1, li .i64 r180.2.l.a1.Rect.Y1, lb r180.2.l.a2.On, li .i64 r180.2.l.a2.Session, li .i64 r180.2.l.a2.Start, li .i64 r180.2.l.a2.Rect.X0, li .i64 r180.2.l.a2.Rect.Y0, li .i64 r180.2.l.a2.Rect.X1, li .i64 r180.2.l.a2.Rect.Y1, lb r180.2.l.a3.On, li .i64 r180.2.l.a3.Session, li .i64 r180.2.l.a3.Start, li .i64 r180.2.l.a3.Rect.X0, li .i64 r180.2.l.a3.Rect.Y0, li .i64 r180.2.l.a3.Rect.X1, li .i64 r180.2.l.a3.Rect.Y1]))] (by kernel_rfl) (by kernel_rfl) (by kernel_rfl) ?_
              exact F11_j192_ok n a0 a1 a2 a3 i117 r180 r183 (F11_l174 n a0 a1 a2 a3 m_l174) m_l174 ih_l174 false 0 0 0 0 0 0
          · refine SimI.run 3 [(71, .one (lb false)), (70, .tup []), (69, .tup [])] [] (by kernel_rfl) ?_
            refine SimI.done (by kernel_rfl) ?_
            refine SimE.thenN ?_
            refine Sim.condF (by kernel_rfl) ?_
            refine Sim.skip ?_
            refine SimE.thenN ?_
            refine Sim.pre (ts := [0, 2, 5, 7, 9, 10, 11, 13]) (os := [5, 7, 13, 21, 300000, 300001]) (ow := []) [(0, .one (vw Step.cod a0)), (2, .one (li .i64 a2)), (5, .one (.ptr 5 0)), (7, .one (.ptr 7 0)), (9, .one (.ptr 300000 0)), (10, .one (.ptr 21 0)), (11, .one (li .i64 i117)), (13, .one (.ptr 13 0))] [(5, some (.cells [li .i64 a1.X, li .i64 a1.Y])), (7, some (.cells [li .i64 a3.X0, li .i64 a3.Y0, li .i64 a3.X1, li .i64 a3.Y1])), (13, some (.cells [lb false, li .i64 0, li .i64 0, li .i64 0, li .i64 0, li .i64 0, li .i64 0])), (21, some (.cells [lb r183.2.L.a0.On, li .i64 r183.2.L.a0.Session, li .i64 r183.2.L.a0.Start, li .i64 r183.2.L.a0.Rect.X0, li .i64 r183.2.L.a0.Rect.Y0, li .i64 r183.2.L.a0.Rect.X1, li .i64 r183.2.L.a0.Rect.Y1, lb r183.2.L.a1.On, li .i64 r183.2.L.a1.Session, li .i64 r183.2.L.a1.Start, li .i64 r183.2.L.a1.Rect.X0, li .i64 r183.2.L.a1.Rect.Y0, li .i64 r183.2.L.a1.Rect.X1, li .i64 r183.2.L.a1.Rect.Y1, lb r183.2.L.a2.On, li .i64 r183.2.L.a2.Session, li .i64 r183.2.L.a2.Start, li .i64 r183.2.L.a2.Rect.X0, li .i64 r183.2.L.a2.Rect.Y0, li .i64 r183.2.L.a2.Rect.X1, li .i64 r183.2.L.a2.Rect.Y1, lb r183.2.L.a3.On, li .i64 r183.2.L.a3.Session, li .i64 r183.2.L.a3.Start, li .i64 r183.2.L.a3.Rect.X0, li .i64 r183.2.L.a3.Rect.Y0, li .i64 r183.2.L.a3.Rect.X1, li .i64 r183.2.L.a3.Rect.Y1])), (300000, some (.cells [lb r180.2.l.a0.On, li .i64 r180.2.l.a0.Session, li .i64 r180.2.l.a0.Start, li .i64 r180.2.l.a0.Rect.X0, li .i64 r180.2.l.a0.Rect.Y0, li .i64 r180.2.l.a0.Rect.X1, li .i64 r180.2.l.a0.Rect.Y1, lb r180.2.l.a1.On, li .i64 r180.2.l.a1.Session, li .i64 r180.2.l.a1.Start, li .i64 r180.2.l.a1.Rect.X0, li .i64 r180.2.l.a1.Rect.Y0, li .i64 r180.2.l.a1.Rect.X1, li .i64 r180.2.l.a1.Rect.Y1, lb r180.2.l.a2.On, li .i64 r180.2.l.a2.Session, li .i64 r180.2.l.a2.Start, li .i64 r180.2.l.a2.Rect.X0, li .i64 r180.2.l.a2.Rect.Y0, li .i64 r180.2.l.a2.Rect.X1, li .i64 r180.2.l.a2.Rect.Y1, lb r180.2.l.a3.On, li .i64 r180.2.l.a3.Session, li .i64 r180.2.l.a3.Start, li .i64 r180.2.l.a3.Rect.X0, li .i64 r180.2.l.a3.Rect.Y0, li .i64 r180.2.l.a3.Rect.X1, li .i64 r180.2.l.a3.Rect.Y1]))] (by kernel_rfl) (by kernel_rfl) (by kernel_rfl) ?_
            exact F11_j192_ok n a0 a1 a2 a3 i117 r180 r183 (F11_l174 n a0 a1 a2 a3 m_l174) m_l174 ih_l174 false 0 0 0 0 0 0
    · refine Sim.exit ?_
      refine SimE.thenX ?_
      refine SimE.loopX ?_
      refine SimE.blockX ?_
      refine SimE.thenN ?_
      refine Sim.seq ?_
      refine Sim.region0 ?_
      refine SimI.run 1 [(103, .agg [li .i64 a3.X0, li .i64 a3.Y0, li .i64 a3.X1, li .i64 a3.Y1])] [] (by kernel_rfl) ?_
      refine SimI.bind (og := F45 n a3) { dst := some 104, op := POp.call false [[]] 45 [Operand.tmp 103], guard := none, hints := [(103, Hint.imm)] } (fun r197 => [(104, .agg [li .i64 r197.X0, li .i64 r197.Y0, li .i64 r197.X1, li .i64 r197.Y1])]) (fun r197 => []) (by kernel_rfl) (fun r197 hr => pOp_eff (by kernel_rfl) (by kernel_rfl) (eff_call (ARGS := [.agg [li .i64 a3.X0, li .i64 a3.Y0, li .i64 a3.X1, li .i64 a3.Y1]]) (by kernel_rfl) (args_clean (by kernel_rfl) args_nil) (F45_ok n a3 r197 hr) (by kernel_rfl))) (fun r197 => ?_)
      refine SimI.run 1 [(105, .agg [li .i64 a3.X0, li .i64 a3.Y0, li .i64 a3.X1, li .i64 a3.Y1])] [] (by kernel_rfl) ?_
      refine SimI.bind (og := F46 n a3) { dst := some 106, op := POp.call false [[]] 46 [Operand.tmp 105], guard := none, hints := [(105, Hint.imm)] } (fun r198 => [(106, .agg [li .i64 r198.X0, li .i64 r198.Y0, li .i64 r198.X1, li .i64 r198.Y1])]) (fun r198 => []) (by kernel_rfl) (fun r198 hr => pOp_eff (by kernel_rfl) (by kernel_rfl) (eff_call (ARGS := [.agg [li .i64 a3.X0, li .i64 a3.Y0, li .i64 a3.X1, li .i64 a3.Y1]]) (by kernel_rfl) (args_clean (by kernel_rfl) args_nil) (F46_ok n a3 r198 hr) (by kernel_rfl))) (fun r198 => ?_)
      refine SimI.step { dst := some 107, op := POp.prim (Prim.bin BinOp.eql 24 false false) [Operand.tmp 104, Operand.tmp 106], guard := none, hints := [(104, Hint.imm), (106, Hint.imm)] } [(107, .one (lb (Rect.eqb r197 r198)))] [] (by kernel_rfl) (pOp_eff (by kernel_rfl) (by kernel_rfl) (eff_prim (by kernel_rfl) (Rect_eql r197 r198 _ _))) ?_
      refine SimI.run 1 [(8, .one (lb (Rect.eqb r197 r198)))] [] (by kernel_rfl) ?_
      refine SimI.done (by kernel_rfl) ?_
      refine SimE.thenN ?_
      refine Sim.ret ?_
      exact SimE.fin (by kernel_rfl)

def F11 (n : Nat) (a0 : (List Step)) (a1 : Point) (a2 : Int) (a3 : Rect) : Option Bool :=
  ((some true)).bind fun (r1 : Bool) =>
  if !(r1) then
    some false
  else
    if decide ((60 : Int) < ((a0).length : Int)) then
      some true
    else
      (F36 n).bind fun (r2 : Book) =>
      F11_l174 n a0 a1 a2 a3 (n + 8) 0 false 0 0 0 0 0 0 false 0 0 0 0 0 0 false 0 0 0 0 0 0 false 0 0 0 0 0 0 r2.l.a0.On r2.l.a0.Session r2.l.a0.Start r2.l.a0.Rect.X0 r2.l.a0.Rect.Y0 r2.l.a0.Rect.X1 r2.l.a0.Rect.Y1 r2.l.a1.On r2.l.a1.Session r2.l.a1.Start r2.l.a1.Rect.X0 r2.l.a1.Rect.Y0 r2.l.a1.Rect.X1 r2.l.a1.Rect.Y1 r2.l.a2.On r2.l.a2.Session r2.l.a2.Start r2.l.a2.Rect.X0 r2.l.a2.Rect.Y0 r2.l.a2.Rect.X1 r2.l.a2.Rect.Y1 r2.l.a3.On r2.l.a3.Session r2.l.a3.Start r2.l.a3.Rect.X0 r2.l.a3.Rect.Y0 r2.l.a3.Rect.X1 r2.l.a3.Rect.Y1
theorem F11_ok (n : Nat) (a0 : (List Step)) (a1 : Point) (a2 : Int) (a3 : Rect) : ∀ r, F11 n a0 a1 a2 a3 = some r → D 11 [.one (vw Step.cod a0), .agg [li .i64 a1.X, li .i64 a1.Y], .one (li .i64 a2), .agg [li .i64 a3.X0, li .i64 a3.Y0, li .i64 a3.X1, li .i64 a3.Y1]] [] = some (F11_e r) := by
  refine fn_to (D := D) (n := n + 8) (nt := 108) (rs := pc11_r) (c := pc11_c72) (L := [(0, .one (vw Step.cod a0)), (1, .agg [li .i64 a1.X, li .i64 a1.Y]), (2, .one (li .i64 a2)), (3, .agg [li .i64 a3.X0, li .i64 a3.Y0, li .i64 a3.X1, li .i64 a3.Y1])]) (M := []) (k := 0) rfl rfl rfl rfl rfl rfl rfl ?_
  unfold F11
  refine Sim.seq ?_
  refine Sim.region0 ?_
  refine SimI.run 3 [(8, .one (lb false)), (7, .one (.ptr 7 0)), (5, .one (.ptr 5 0))] [(7, some (.cells [li .i64 a3.X0, li .i64 a3.Y0, li .i64 a3.X1, li .i64 a3.Y1])), (5, some (.cells [li .i64 a1.X, li .i64 a1.Y]))] (by kernel_rfl) ?_
  refine SimI.done (by kernel_rfl) ?_
  refine SimE.thenN ?_
  refine Sim.seq ?_
  refine Sim.seq ?_
  refine Sim.region0 ?_
  refine SimI.bind (og := (some true)) { dst := some 14, op := POp.call true [] 35 [], guard := none, hints := [] } (fun r1 => [(14, .one (lb r1))]) (fun r1 => []) (by kernel_rfl) (fun r1 hr => pOp_eff (by kernel_rfl) (by kernel_rfl) (eff_call (ARGS := []) (by kernel_rfl) (args_nil) (F35_ok n r1 hr) (by kernel_rfl))) (fun r1 => ?_)
  refine SimI.run 1 [(15, .one (lb (!(r1))))] [] (by kernel_rfl) ?_
  refine SimI.done (by kernel_rfl) ?_
  refine SimE.thenN ?_
  refine Sim.cond (!(r1)) (by kernel_rfl) ?_ ?_
  · refine Sim.seq ?_
    refine Sim.region0 ?_
    refine SimI.run 1 [(8, .one (lb false))] [] (by kernel_rfl) ?_
    refine SimI.done (by kernel_rfl) ?_
    refine SimE.thenN ?_
    refine Sim.ret ?_
    refine SimE.thenR ?_
    exact SimE.fin (by kernel_rfl)
  · refine Sim.skip ?_
    refine SimE.thenN ?_
    refine Sim.seq ?_
    refine Sim.seq ?_
    refine Sim.region0 ?_
    refine SimI.run 3 [(18, .one (lb (decide ((60 : Int) < ((a0).length : Int))))), (17, .one (li .i64 ((a0).length : Int))), (16, .one (vw Step.cod a0))] [] (by kernel_rfl) ?_
    refine SimI.done (by kernel_rfl) ?_
    refine SimE.thenN ?_
    refine Sim.cond (decide ((60 : Int) < ((a0).length : Int))) (by kernel_rfl) ?_ ?_
    · refine Sim.seq ?_
      refine Sim.region0 ?_
      refine SimI.run 1 [(8, .one (lb true))] [] (by kernel_rfl) ?_
      refine SimI.done (by kernel_rfl) ?_
      refine SimE.thenN ?_
      refine Sim.ret ?_
      refine SimE.thenR ?_
      exact SimE.fin (by kernel_rfl)
    · refine Sim.skip ?_
      refine SimE.thenN ?_
      refine Sim.seq ?_
      refine Sim.region0 ?_
      refine SimI.bind (og := F36 n) { dst := some 19, op := POp.gcall false false [300000, 300001, 300002, 300003, 300004, 300005, 300006, 300007] [] 36 [], guard := none, hints := [] } (fun r2 => [(19, .one (.ptr 300000 0))]) (fun r2 => [(300000, some (.cells [lb r2.l.a0.On, li .i64 r2.l.a0.Session, li .i64 r2.l.a0.Start, li .i64 r2.l.a0.Rect.X0, li .i64 r2.l.a0.Rect.Y0, li .i64 r2.l.a0.Rect.X1, li .i64 r2.l.a0.Rect.Y1, lb r2.l.a1.On, li .i64 r2.l.a1.Session, li .i64 r2.l.a1.Start, li .i64 r2.l.a1.Rect.X0, li .i64 r2.l.a1.Rect.Y0, li .i64 r2.l.a1.Rect.X1, li .i64 r2.l.a1.Rect.Y1, lb r2.l.a2.On, li .i64 r2.l.a2.Session, li .i64 r2.l.a2.Start, li .i64 r2.l.a2.Rect.X0, li .i64 r2.l.a2.Rect.Y0, li .i64 r2.l.a2.Rect.X1, li .i64 r2.l.a2.Rect.Y1, lb r2.l.a3.On, li .i64 r2.l.a3.Session, li .i64 r2.l.a3.Start, li .i64 r2.l.a3.Rect.X0, li .i64 r2.l.a3.Rect.Y0, li .i64 r2.l.a3.Rect.X1, li .i64 r2.l.a3.Rect.Y1]))]) (by kernel_rfl) (fun r2 hr => pOp_eff (by kernel_rfl) (by kernel_rfl) (eff_gcall (ks := []) (rks := []) (new := [300000]) (ARGS := []) (args1 := []) (args2 := []) (os := []) (os' := [.cells [lb r2.l.a0.On, li .i64 r2.l.a0.Session, li .i64 r2.l.a0.Start, li .i64 r2.l.a0.Rect.X0, li .i64 r2.l.a0.Rect.Y0, li .i64 r2.l.a0.Rect.X1, li .i64 r2.l.a0.Rect.Y1, lb r2.l.a1.On, li .i64 r2.l.a1.Session, li .i64 r2.l.a1.Start, li .i64 r2.l.a1.Rect.X0, li .i64 r2.l.a1.Rect.Y0, li .i64 r2.l.a1.Rect.X1, li .i64 r2.l.a1.Rect.Y1, lb r2.l.a2.On, li .i64 r2.l.a2.Session, li .i64 r2.l.a2.Start, li .i64 r2.l.a2.Rect.X0, li .i64 r2.l.a2.Rect.Y0, li .i64 r2.l.a2.Rect.X1, li .i64 r2.l.a2.Rect.Y1, lb r2.l.a3.On, li .i64 r2.l.a3.Session, li .i64 r2.l.a3.Start, li .i64 r2.l.a3.Rect.X0, li .i64 r2.l.a3.Rect.Y0, li .i64 r2.l.a3.Rect.X1, li .i64 r2.l.a3.Rect.Y1]]) (os1 := [.cells [lb r2.l.a0.On, li .i64 r2.l.a0.Session, li .i64 r2.l.a0.Start, li .i64 r2.l.a0.Rect.X0, li .i64 r2.l.a0.Rect.Y0, li .i64 r2.l.a0.Rect.X1, li .i64 r2.l.a0.Rect.Y1, lb r2.l.a1.On, li .i64 r2.l.a1.Session, li .i64 r2.l.a1.Start, li .i64 r2.l.a1.Rect.X0, li .i64 r2.l.a1.Rect.Y0, li .i64 r2.l.a1.Rect.X1, li .i64 r2.l.a1.Rect.Y1, lb r2.l.a2.On, li .i64 r2.l.a2.Session, li .i64 r2.l.a2.Start, li .i64 r2.l.a2.Rect.X0, li .i64 r2.l.a2.Rect.Y0, li .i64 r2.l.a2.Rect.X1, li .i64 r2.l.a2.Rect.Y1, lb r2.l.a3.On, li .i64 r2.l.a3.Session, li .i64 r2.l.a3.Start, li .i64 r2.l.a3.Rect.X0, li .i64 r2.l.a3.Rect.Y0, li .i64 r2.l.a3.Rect.X1, li .i64 r2.l.a3.Rect.Y1]]) (res := .one (.ptr 1000000 0)) (res1 := .one (.ptr 1000000 0)) (r := .one (.ptr 300000 0)) (N := [(300000, some (.cells [lb r2.l.a0.On, li .i64 r2.l.a0.Session, li .i64 r2.l.a0.Start, li .i64 r2.l.a0.Rect.X0, li .i64 r2.l.a0.Rect.Y0, li .i64 r2.l.a0.Rect.X1, li .i64 r2.l.a0.Rect.Y1, lb r2.l.a1.On, li .i64 r2.l.a1.Session, li .i64 r2.l.a1.Start, li .i64 r2.l.a1.Rect.X0, li .i64 r2.l.a1.Rect.Y0, li .i64 r2.l.a1.Rect.X1, li .i64 r2.l.a1.Rect.Y1, lb r2.l.a2.On, li .i64 r2.l.a2.Session, li .i64 r2.l.a2.Start, li .i64 r2.l.a2.Rect.X0, li .i64 r2.l.a2.Rect.Y0, li .i64 r2.l.a2.Rect.X1, li .i64 r2.l.a2.Rect.Y1, lb r2.l.a3.On, li .i64 r2.l.a3.Session, li .i64 r2.l.a3.Start, li .i64 r2.l.a3.Rect.X0, li .i64 r2.l.a3.Rect.Y0, li .i64 r2.l.a3.Rect.X1, li .i64 r2.l.a3.Rect.Y1]))]) (by kernel_rfl) (readA_ow (readA_nil)) (by kernel_rfl) (by kernel_rfl) (by kernel_rfl) (by kernel_rfl) (F36_ok n r2 hr) (by kernel_rfl) (by kernel_rfl) (by kernel_rfl) rfl (by kernel_rfl) (by kernel_rfl) (by kernel_rfl))) (fun r2 => ?_)
      refine SimI.run 4 [(10, .one (.ptr 21 0)), (9, .one (.ptr 300000 0)), (21, .one (.ptr 21 0)), (20, .agg [lb false, li .i64 0, li .i64 0, li .i64 0, li .i64 0, li .i64 0, li .i64 0, lb false, li .i64 0, li .i64 0, li .i64 0, li .i64 0, li .i64 0, li .i64 0, lb false, li .i64 0, li .i64 0, li .i64 0, li .i64 0, li .i64 0, li .i64 0, lb false, li .i64 0, li .i64 0, li .i64 0, li .i64 0, li .i64 0, li .i64 0])] [(21, some (.cells [lb false, li .i64 0, li .i64 0, li .i64 0, li .i64 0, li .i64 0, li .i64 0, lb false, li .i64 0, li .i64 0, li .i64 0, li .i64 0, li .i64 0, li .i64 0, lb false, li .i64 0, li .i64 0, li .i64 0, li .i64 0, li .i64 0, li .i64 0, lb false, li .i64 0, li .i64 0, li .i64 0, li .i64 0, li .i64 0, li .i64 0]))] (by kernel_rfl) ?_
      refine SimI.done (by kernel_rfl) ?_
      refine SimE.thenN ?_
      refine Sim.seq ?_
      refine Sim.seq ?_
      refine Sim.region0 ?_
      refine SimI.run 1 [(11, .one (li .i64 0))] [] (by kernel_rfl) ?_
      refine SimI.done (by kernel_rfl) ?_
      refine SimE.thenN ?_
      refine Sim.block ?_
      refine Sim.loop ?_
      refine SimL.pre (ts := [0, 2, 5, 7, 9, 10, 11]) (os := [5, 7, 13, 21, 300000]) (ow := []) [(0, .one (vw Step.cod a0)), (2, .one (li .i64 a2)), (5, .one (.ptr 5 0)), (7, .one (.ptr 7 0)), (9, .one (.ptr 300000 0)), (10, .one (.ptr 21 0)), (11, .one (li .i64 0))] [(5, some (.cells [li .i64 a1.X, li .i64 a1.Y])), (7, some (.cells [li .i64 a3.X0, li .i64 a3.Y0, li .i64 a3.X1, li .i64 a3.Y1])), (21, some (.cells [lb false, li .i64 0, li .i64 0, li .i64 0, li .i64 0, li .i64 0, li .i64 0, lb false, li .i64 0, li .i64 0, li .i64 0, li .i64 0, li .i64 0, li .i64 0, lb false, li .i64 0, li .i64 0, li .i64 0, li .i64 0, li .i64 0, li .i64 0, lb false, li .i64 0, li .i64 0, li .i64 0, li .i64 0, li .i64 0, li .i64 0])), (300000, some (.cells [lb r2.l.a0.On, li .i64 r2.l.a0.Session, li .i64 r2.l.a0.Start, li .i64 r2.l.a0.Rect.X0, li .i64 r2.l.a0.Rect.Y0, li .i64 r2.l.a0.Rect.X1, li .i64 r2.l.a0.Rect.Y1, lb r2.l.a1.On, li .i64 r2.l.a1.Session, li .i64 r2.l.a1.Start, li .i64 r2.l.a1.Rect.X0, li .i64 r2.l.a1.Rect.Y0, li .i64 r2.l.a1.Rect.X1, li .i64 r2.l.a1.Rect.Y1, lb r2.l.a2.On, li .i64 r2.l.a2.Session, li .i64 r2.l.a2.Start, li .i64 r2.l.a2.Rect.X0, li .i64 r2.l.a2.Rect.Y0, li .i64 r2.l.a2.Rect.X1, li .i64 r2.l.a2.Rect.Y1, lb r2.l.a3.On, li .i64 r2.l.a3.Session, li .i64 r2.l.a3.Start, li .i64 r2.l.a3.Rect.X0, li .i64 r2.l.a3.Rect.Y0, li .i64 r2.l.a3.Rect.X1, li .i64 r2.l.a3.Rect.Y1]))] (by kernel_rfl) (by kernel_rfl) (by kernel_rfl) ?_
      exact F11_l174_ok n a0 a1 a2 a3 (n + 8) 0 false 0 0 0 0 0 0 false 0 0 0 0 0 0 false 0 0 0 0 0 0 false 0 0 0 0 0 0 r2.l.a0.On r2.l.a0.Session r2.l.a0.Start r2.l.a0.Rect.X0 r2.l.a0.Rect.Y0 r2.l.a0.Rect.X1 r2.l.a0.Rect.Y1 r2.l.a1.On r2.l.a1.Session r2.l.a1.Start r2.l.a1.Rect.X0 r2.l.a1.Rect.Y0 r2.l.a1.Rect.X1 r2.l.a1.Rect.Y1 r2.l.a2.On r2.l.a2.Session r2.l.a2.Start r2.l.a2.Rect.X0 r2.l.a2.Rect.Y0 r2.l.a2.Rect.X1 r2.l.a2.Rect.Y1 r2.l.a3.On r2.l.a3.Session r2.l.a3.Start r2.l.a3.Rect.X0 r2.l.a3.Rect.Y0 r2.l.a3.Rect.X1 r2.l.a3.Rect.Y1


end Go.Proofs.Ytajfdeeepklfoaa
