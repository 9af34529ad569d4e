/-
  Functions of the program as functions of Lean. No condition.
-/
import Derived.Test.YthmbegagkgdopaaCmdRowsP0
namespace Go.Proofs.Ythmbegagkgdopaa
open Go Go.Rx
set_option maxRecDepth 100000
set_option linter.unusedVariables false
set_option linter.unusedSimpArgs false
set_option linter.unnecessarySimpa false
-- 66: vedette/cmd.Read$2
def F66s0_e (a0 : Command) (a1 : ByteArray) (a2 : Int) : (Int × Command × Int) → PV × List Ob := fun r => (.one (li .i64 r.1), [.cells [.ptr 1000001 0, .ptr 1000001 16, .ptr 1000001 17], .cells (Command.cells r.2.1), .cells [.fn 64 [.ptr 1000003 0, .ptr 1000004 0]], .cells [ls a1], .cells [li .i64 r.2.2]])
def F66s0 (n : Nat) (a0 : Command) (a1 : ByteArray) (a2 : Int) : Option (Int × Command × Int) :=
  (F64s0 n a1 a2).bind fun (r1 : (Int × Int × Int)) =>
  if r1.2.1 != 0 then
    some (r1.2.1, a0, r1.2.2)
  else
    (F64s0 n a1 r1.2.2).bind fun (r2 : (Int × Int × Int)) =>
    if r2.2.1 != 0 then
      some (r2.2.1, (Command.mk (imin (imax r1.1 (-1000001)) 1000001) a0.ID a0.Which a0.To a0.At a0.F a0.Value a0.Client a0.Session a0.Rect), r2.2.2)
    else
      (F64s0 n a1 r2.2.2).bind fun (r3 : (Int × Int × Int)) =>
      if r3.2.1 != 0 then
        some (r3.2.1, (Command.mk (imin (imax r1.1 (-1000001)) 1000001) a0.ID a0.Which a0.To a0.At a0.F a0.Value (imin (imax r2.1 (-1000001)) 1000001) a0.Session a0.Rect), r3.2.2)
      else
        some (0, (Command.mk (imin (imax r1.1 (-1000001)) 1000001) a0.ID a0.Which a0.To a0.At a0.F a0.Value (imin (imax r2.1 (-1000001)) 1000001) (imin (imax r3.1 (-1000001)) 1000001) a0.Rect), r3.2.2)
theorem F66s0_ok (n : Nat) (a0 : Command) (a1 : ByteArray) (a2 : Int) : ∀ r, F66s0 n a0 a1 a2 = some r → D 66 [.one (.csl 1000000 1 0 3), .one (.ptr 1000002 0)] [.cells [.ptr 1000001 0, .ptr 1000001 16, .ptr 1000001 17], .cells (Command.cells a0), .cells [.fn 64 [.ptr 1000003 0, .ptr 1000004 0]], .cells [ls a1], .cells [li .i64 a2]] = some ((F66s0_e a0 a1 a2) r) := by
  refine fn_to (D := D) (n := n + 8) (nt := 28) (rs := pc66_r) (c := pc66_c32) (L := [(0, .one (.csl 1000000 1 0 3)), (1, .one (.ptr 1000002 0))]) (M := [(1000000, some (.cells [.ptr 1000001 0, .ptr 1000001 16, .ptr 1000001 17])), (1000001, some (.cells (Command.cells a0))), (1000002, some (.cells [.fn 64 [.ptr 1000003 0, .ptr 1000004 0]])), (1000003, some (.cells [ls a1])), (1000004, some (.cells [li .i64 a2]))]) (k := 5) rfl rfl rfl rfl rfl rfl rfl ?_
  unfold F66s0
  refine Sim.seq ?_
  refine Sim.region0 ?_
  refine SimI.run 1 [(3, .one (li .i64 0))] [] (by kernel_rfl) ?_
  refine SimI.done (by kernel_rfl) ?_
  refine SimE.thenN ?_
  refine Sim.seq ?_
  refine Sim.seq ?_
  refine Sim.region0 ?_
  refine SimI.run 3 [(10, .one (li .i64 0)), (9, .one (li .i64 3)), (8, .one (.csl 1000000 1 0 3))] [] (by kernel_rfl) ?_
  refine SimI.done (by kernel_rfl) ?_
  refine SimE.thenN ?_
  refine Sim.block ?_
  refine Sim.loop ?_
  refine SimL.succ ?_
  refine Sim.seq ?_
  refine Sim.region [(1, .one (.ptr 1000002 0)), (8, .one (.csl 1000000 1 0 3)), (9, .one (li .i64 3)), (10, .one (li .i64 0))] [(1000000, some (.cells [.ptr 1000001 0, .ptr 1000001 16, .ptr 1000001 17])), (1000001, some (.cells (Command.cells a0))), (1000002, some (.cells [.fn 64 [.ptr 1000003 0, .ptr 1000004 0]])), (1000003, some (.cells [ls a1])), (1000004, some (.cells [li .i64 a2]))] (by kernel_rfl) ?_
  refine SimI.run 1 [(11, .one (lb true))] [] (by kernel_rfl) ?_
  refine SimI.done (by kernel_rfl) ?_
  refine SimE.thenN ?_
  refine Sim.seq ?_
  refine Sim.condT (by kernel_rfl) ?_
  refine Sim.skip ?_
  refine SimE.thenN ?_
  refine Sim.seq ?_
  refine Sim.block ?_
  refine Sim.seq ?_
  refine Sim.region0 ?_
  refine SimI.run 3 [(5, .one (.ptr 1000001 0)), (13, .one (.ptr 1000001 0)), (12, .one (.ptr 1000000 0))] [] (by kernel_rfl) ?_
  refine SimI.done (by kernel_rfl) ?_
  refine SimE.thenN ?_
  refine Sim.seq ?_
  refine Sim.region0 ?_
  refine SimI.run 1 [(15, .one (.fn 64 [.ptr 1000003 0, .ptr 1000004 0]))] [] (by kernel_rfl) ?_
  refine SimI.bind (og := F64s0 n a1 a2) { dst := some 16, op := POp.gcallv false false [300000, 300001, 300002, 300003, 300004, 300005, 300006, 300007, 1000003, 1000004] [] (Operand.tmp 15) [], guard := none, hints := [] } (fun r1 => [(16, .tup [.one (li .i64 r1.1), .one (li .i64 r1.2.1)])]) (fun r1 => [(1000003, some (.cells [ls a1])), (1000004, some (.cells [li .i64 r1.2.2]))]) (by kernel_rfl) (fun r1 hr => pOp_eff (by kernel_rfl) (by kernel_rfl) (eff_gcallv (ks := [1000003, 1000004]) (rks := []) (new := []) (ARGS := [.one (.ptr 1000003 0), .one (.ptr 1000004 0)]) (args1 := [.one (.ptr 1000003 0), .one (.ptr 1000004 0)]) (args2 := [.one (.ptr 1000000 0), .one (.ptr 1000001 0)]) (os := [.cells [ls a1], .cells [li .i64 a2]]) (os' := [.cells [ls a1], .cells [li .i64 r1.2.2]]) (os1 := [.cells [ls a1], .cells [li .i64 r1.2.2]]) (res := .tup [.one (li .i64 r1.1), .one (li .i64 r1.2.1)]) (res1 := .tup [.one (li .i64 r1.1), .one (li .i64 r1.2.1)]) (r := .tup [.one (li .i64 r1.1), .one (li .i64 r1.2.1)]) (N := [(1000003, some (.cells [ls a1])), (1000004, some (.cells [li .i64 r1.2.2]))]) (caps := [.ptr 1000003 0, .ptr 1000004 0]) (by kernel_rfl) (by kernel_rfl) (readA_ow (readA_keep (by kernel_rfl) (readA_keep (by kernel_rfl) (readA_nil)))) (by kernel_rfl) (by kernel_rfl) (by kernel_rfl) (by kernel_rfl) (F64s0_ok n a1 a2 r1 hr) (by kernel_rfl) (by kernel_rfl) (by kernel_rfl) rfl (by kernel_rfl) (by kernel_rfl) (by kernel_rfl))) (fun r1 => ?_)
  refine SimI.run 5 [(7, .one (li .i64 r1.2.1)), (6, .one (li .i64 r1.1)), (18, .one (li .i64 r1.2.1)), (17, .one (li .i64 r1.1)), (14, .tup [.one (li .i64 r1.1), .one (li .i64 r1.2.1)])] [] (by kernel_rfl) ?_
  refine SimI.done (by kernel_rfl) ?_
  refine SimE.thenN ?_
  refine Sim.seq ?_
  refine Sim.seq ?_
  refine Sim.region0 ?_
  refine SimI.run 2 [(20, .one (lb (r1.2.1 != 0))), (19, .one (li .i64 r1.2.1))] [] (by kernel_rfl) ?_
  refine SimI.done (by kernel_rfl) ?_
  refine SimE.thenN ?_
  refine Sim.cond (r1.2.1 != 0) (by kernel_rfl) ?_ ?_
  · refine Sim.seq ?_
    refine Sim.region0 ?_
    refine SimI.run 2 [(3, .one (li .i64 r1.2.1)), (21, .one (li .i64 r1.2.1))] [] (by kernel_rfl) ?_
    refine SimI.done (by kernel_rfl) ?_
    refine SimE.thenN ?_
    refine Sim.ret ?_
    refine SimE.thenR ?_
    refine SimE.blockR ?_
    refine SimE.thenR ?_
    refine SimE.loopR ?_
    refine SimE.blockR ?_
    refine SimE.thenR ?_
    exact SimE.fin (by kernel_rfl)
  · refine Sim.skip ?_
    refine SimE.thenN ?_
    refine Sim.region0 ?_
    refine SimI.run 6 [(26, .one (.ptr 1000001 0)), (25, .one (li .i64 (imin (imax r1.1 (-1000001)) 1000001))), (24, .one (li .i64 (imax r1.1 (-1000001)))), (23, .one (li .i64 r1.1)), (22, .one (.ptr 1000001 0))] [(1000001, some (.cells [li .i64 (imin (imax r1.1 (-1000001)) 1000001), li .i64 a0.ID, li .i64 a0.Which, li .i64 a0.To, li .i64 a0.At.X, li .i64 a0.At.Y, li .i64 a0.F.a0.N, ls a0.F.a0.Text, li .i64 a0.F.a1.N, ls a0.F.a1.Text, li .i64 a0.F.a2.N, ls a0.F.a2.Text, li .i64 a0.F.a3.N, ls a0.F.a3.Text, li .i64 a0.Value.N, ls a0.Value.Text, li .i64 a0.Client, li .i64 a0.Session, li .i64 a0.Rect.X0, li .i64 a0.Rect.Y0, li .i64 a0.Rect.X1, li .i64 a0.Rect.Y1]))] (by kernel_rfl) ?_
    refine SimI.done (by kernel_rfl) ?_
    refine SimE.blockN ?_
    refine SimE.thenN ?_
    refine Sim.region0 ?_
    refine SimI.run 2 [(10, .one (li .i64 1)), (27, .one (li .i64 1))] [] (by kernel_rfl) ?_
    refine SimI.done (by kernel_rfl) ?_
    refine SimE.loopN ?_
    refine SimL.succ ?_
    refine Sim.seq ?_
    refine Sim.region [(1, .one (.ptr 1000002 0)), (8, .one (.csl 1000000 1 0 3)), (9, .one (li .i64 3)), (10, .one (li .i64 1))] [(1000000, some (.cells [.ptr 1000001 0, .ptr 1000001 16, .ptr 1000001 17])), (1000001, some (.cells [li .i64 (imin (imax r1.1 (-1000001)) 1000001), li .i64 a0.ID, li .i64 a0.Which, li .i64 a0.To, li .i64 a0.At.X, li .i64 a0.At.Y, li .i64 a0.F.a0.N, ls a0.F.a0.Text, li .i64 a0.F.a1.N, ls a0.F.a1.Text, li .i64 a0.F.a2.N, ls a0.F.a2.Text, li .i64 a0.F.a3.N, ls a0.F.a3.Text, li .i64 a0.Value.N, ls a0.Value.Text, li .i64 a0.Client, li .i64 a0.Session, li .i64 a0.Rect.X0, li .i64 a0.Rect.Y0, li .i64 a0.Rect.X1, li .i64 a0.Rect.Y1])), (1000002, some (.cells [.fn 64 [.ptr 1000003 0, .ptr 1000004 0]])), (1000003, some (.cells [ls a1])), (1000004, some (.cells [li .i64 r1.2.2]))] (by kernel_rfl) ?_
    refine SimI.run 1 [(11, .one (lb true))] [] (by kernel_rfl) ?_
    refine SimI.done (by kernel_rfl) ?_
    refine SimE.thenN ?_
    refine Sim.seq ?_
    refine Sim.condT (by kernel_rfl) ?_
    refine Sim.skip ?_
    refine SimE.thenN ?_
    refine Sim.seq ?_
    refine Sim.block ?_
    refine Sim.seq ?_
    refine Sim.region0 ?_
    refine SimI.run 3 [(5, .one (.ptr 1000001 16)), (13, .one (.ptr 1000001 16)), (12, .one (.ptr 1000000 1))] [] (by kernel_rfl) ?_
    refine SimI.done (by kernel_rfl) ?_
    refine SimE.thenN ?_
    refine Sim.seq ?_
    refine Sim.region0 ?_
    refine SimI.run 1 [(15, .one (.fn 64 [.ptr 1000003 0, .ptr 1000004 0]))] [] (by kernel_rfl) ?_
    refine SimI.bind (og := F64s0 n a1 r1.2.2) { dst := some 16, op := POp.gcallv false false [300000, 300001, 300002, 300003, 300004, 300005, 300006, 300007, 1000003, 1000004] [] (Operand.tmp 15) [], guard := none, hints := [] } (fun r2 => [(16, .tup [.one (li .i64 r2.1), .one (li .i64 r2.2.1)])]) (fun r2 => [(1000003, some (.cells [ls a1])), (1000004, some (.cells [li .i64 r2.2.2]))]) (by kernel_rfl) (fun r2 hr => pOp_eff (by kernel_rfl) (by kernel_rfl) (eff_gcallv (ks := [1000003, 1000004]) (rks := []) (new := []) (ARGS := [.one (.ptr 1000003 0), .one (.ptr 1000004 0)]) (args1 := [.one (.ptr 1000003 0), .one (.ptr 1000004 0)]) (args2 := [.one (.ptr 1000000 0), .one (.ptr 1000001 0)]) (os := [.cells [ls a1], .cells [li .i64 r1.2.2]]) (os' := [.cells [ls a1], .cells [li .i64 r2.2.2]]) (os1 := [.cells [ls a1], .cells [li .i64 r2.2.2]]) (res := .tup [.one (li .i64 r2.1), .one (li .i64 r2.2.1)]) (res1 := .tup [.one (li .i64 r2.1), .one (li .i64 r2.2.1)]) (r := .tup [.one (li .i64 r2.1), .one (li .i64 r2.2.1)]) (N := [(1000003, some (.cells [ls a1])), (1000004, some (.cells [li .i64 r2.2.2]))]) (caps := [.ptr 1000003 0, .ptr 1000004 0]) (by kernel_rfl) (by kernel_rfl) (readA_ow (readA_keep (by kernel_rfl) (readA_keep (by kernel_rfl) (readA_nil)))) (by kernel_rfl) (by kernel_rfl) (by kernel_rfl) (by kernel_rfl) (F64s0_ok n a1 r1.2.2 r2 hr) (by kernel_rfl) (by kernel_rfl) (by kernel_rfl) rfl (by kernel_rfl) (by kernel_rfl) (by kernel_rfl))) (fun r2 => ?_)
    refine SimI.run 5 [(7, .one (li .i64 r2.2.1)), (6, .one (li .i64 r2.1)), (18, .one (li .i64 r2.2.1)), (17, .one (li .i64 r2.1)), (14, .tup [.one (li .i64 r2.1), .one (li .i64 r2.2.1)])] [] (by kernel_rfl) ?_
    refine SimI.done (by kernel_rfl) ?_
    refine SimE.thenN ?_
    refine Sim.seq ?_
    refine Sim.seq ?_
    refine Sim.region0 ?_
    refine SimI.run 2 [(20, .one (lb (r2.2.1 != 0))), (19, .one (li .i64 r2.2.1))] [] (by kernel_rfl) ?_
    refine SimI.done (by kernel_rfl) ?_
    refine SimE.thenN ?_
    refine Sim.cond (r2.2.1 != 0) (by kernel_rfl) ?_ ?_
    · refine Sim.seq ?_
      refine Sim.region0 ?_
      refine SimI.run 2 [(3, .one (li .i64 r2.2.1)), (21, .one (li .i64 r2.2.1))] [] (by kernel_rfl) ?_
      refine SimI.done (by kernel_rfl) ?_
      refine SimE.thenN ?_
      refine Sim.ret ?_
      refine SimE.thenR ?_
      refine SimE.blockR ?_
      refine SimE.thenR ?_
      refine SimE.loopR ?_
      refine SimE.blockR ?_
      refine SimE.thenR ?_
      exact SimE.fin (by kernel_rfl)
    · refine Sim.skip ?_
      refine SimE.thenN ?_
      refine Sim.region0 ?_
      refine SimI.run 6 [(26, .one (.ptr 1000001 16)), (25, .one (li .i64 (imin (imax r2.1 (-1000001)) 1000001))), (24, .one (li .i64 (imax r2.1 (-1000001)))), (23, .one (li .i64 r2.1)), (22, .one (.ptr 1000001 16))] [(1000001, some (.cells [li .i64 (imin (imax r1.1 (-1000001)) 1000001), li .i64 a0.ID, li .i64 a0.Which, li .i64 a0.To, li .i64 a0.At.X, li .i64 a0.At.Y, li .i64 a0.F.a0.N, ls a0.F.a0.Text, li .i64 a0.F.a1.N, ls a0.F.a1.Text, li .i64 a0.F.a2.N, ls a0.F.a2.Text, li .i64 a0.F.a3.N, ls a0.F.a3.Text, li .i64 a0.Value.N, ls a0.Value.Text, li .i64 (imin (imax r2.1 (-1000001)) 1000001), li .i64 a0.Session, li .i64 a0.Rect.X0, li .i64 a0.Rect.Y0, li .i64 a0.Rect.X1, li .i64 a0.Rect.Y1]))] (by kernel_rfl) ?_
      refine SimI.done (by kernel_rfl) ?_
      refine SimE.blockN ?_
      refine SimE.thenN ?_
      refine Sim.region0 ?_
      refine SimI.run 2 [(10, .one (li .i64 2)), (27, .one (li .i64 2))] [] (by kernel_rfl) ?_
      refine SimI.done (by kernel_rfl) ?_
      refine SimE.loopN ?_
      refine SimL.succ ?_
      refine Sim.seq ?_
      refine Sim.region [(1, .one (.ptr 1000002 0)), (8, .one (.csl 1000000 1 0 3)), (9, .one (li .i64 3)), (10, .one (li .i64 2))] [(1000000, some (.cells [.ptr 1000001 0, .ptr 1000001 16, .ptr 1000001 17])), (1000001, some (.cells [li .i64 (imin (imax r1.1 (-1000001)) 1000001), li .i64 a0.ID, li .i64 a0.Which, li .i64 a0.To, li .i64 a0.At.X, li .i64 a0.At.Y, li .i64 a0.F.a0.N, ls a0.F.a0.Text, li .i64 a0.F.a1.N, ls a0.F.a1.Text, li .i64 a0.F.a2.N, ls a0.F.a2.Text, li .i64 a0.F.a3.N, ls a0.F.a3.Text, li .i64 a0.Value.N, ls a0.Value.Text, li .i64 (imin (imax r2.1 (-1000001)) 1000001), li .i64 a0.Session, li .i64 a0.Rect.X0, li .i64 a0.Rect.Y0, li .i64 a0.Rect.X1, li .i64 a0.Rect.Y1])), (1000002, some (.cells [.fn 64 [.ptr 1000003 0, .ptr 1000004 0]])), (1000003, some (.cells [ls a1])), (1000004, some (.cells [li .i64 r2.2.2]))] (by kernel_rfl) ?_
      refine SimI.run 1 [(11, .one (lb true))] [] (by kernel_rfl) ?_
      refine SimI.done (by kernel_rfl) ?_
      refine SimE.thenN ?_
      refine Sim.seq ?_
      refine Sim.condT (by kernel_rfl) ?_
      refine Sim.skip ?_
      refine SimE.thenN ?_
      refine Sim.seq ?_
      refine Sim.block ?_
      refine Sim.seq ?_
      refine Sim.region0 ?_
      refine SimI.run 3 [(5, .one (.ptr 1000001 17)), (13, .one (.ptr 1000001 17)), (12, .one (.ptr 1000000 2))] [] (by kernel_rfl) ?_
      refine SimI.done (by kernel_rfl) ?_
      refine SimE.thenN ?_
      refine Sim.seq ?_
      refine Sim.region0 ?_
      refine SimI.run 1 [(15, .one (.fn 64 [.ptr 1000003 0, .ptr 1000004 0]))] [] (by kernel_rfl) ?_
      refine SimI.bind (og := F64s0 n a1 r2.2.2) { dst := some 16, op := POp.gcallv false false [300000, 300001, 300002, 300003, 300004, 300005, 300006, 300007, 1000003, 1000004] [] (Operand.tmp 15) [], guard := none, hints := [] } (fun r3 => [(16, .tup [.one (li .i64 r3.1), .one (li .i64 r3.2.1)])]) (fun r3 => [(1000003, some (.cells [ls a1])), (1000004, some (.cells [li .i64 r3.2.2]))]) (by kernel_rfl) (fun r3 hr => pOp_eff (by kernel_rfl) (by kernel_rfl) (eff_gcallv (ks := [1000003, 1000004]) (rks := []) (new := []) (ARGS := [.one (.ptr 1000003 0), .one (.ptr 1000004 0)]) (args1 := [.one (.ptr 1000003 0), .one (.ptr 1000004 0)]) (args2 := [.one (.ptr 1000000 0), .one (.ptr 1000001 0)]) (os := [.cells [ls a1], .cells [li .i64 r2.2.2]]) (os' := [.cells [ls a1], .cells [li .i64 r3.2.2]]) (os1 := [.cells [ls a1], .cells [li .i64 r3.2.2]]) (res := .tup [.one (li .i64 r3.1), .one (li .i64 r3.2.1)]) (res1 := .tup [.one (li .i64 r3.1), .one (li .i64 r3.2.1)]) (r := .tup [.one (li .i64 r3.1), .one (li .i64 r3.2.1)]) (N := [(1000003, some (.cells [ls a1])), (1000004, some (.cells [li .i64 r3.2.2]))]) (caps := [.ptr 1000003 0, .ptr 1000004 0]) (by kernel_rfl) (by kernel_rfl) (readA_ow (readA_keep (by kernel_rfl) (readA_keep (by kernel_rfl) (readA_nil)))) (by kernel_rfl) (by kernel_rfl) (by kernel_rfl) (by kernel_rfl) (F64s0_ok n a1 r2.2.2 r3 hr) (by kernel_rfl) (by kernel_rfl) (by kernel_rfl) rfl (by kernel_rfl) (by kernel_rfl) (by kernel_rfl))) (fun r3 => ?_)
      refine SimI.run 5 [(7, .one (li .i64 r3.2.1)), (6, .one (li .i64 r3.1)), (18, .one (li .i64 r3.2.1)), (17, .one (li .i64 r3.1)), (14, .tup [.one (li .i64 r3.1), .one (li .i64 r3.2.1)])] [] (by kernel_rfl) ?_
      refine SimI.done (by kernel_rfl) ?_
      refine SimE.thenN ?_
      refine Sim.seq ?_
      refine Sim.seq ?_
      refine Sim.region0 ?_
      refine SimI.run 2 [(20, .one (lb (r3.2.1 != 0))), (19, .one (li .i64 r3.2.1))] [] (by kernel_rfl) ?_
      refine SimI.done (by kernel_rfl) ?_
      refine SimE.thenN ?_
      refine Sim.cond (r3.2.1 != 0) (by kernel_rfl) ?_ ?_
      · refine Sim.seq ?_
        refine Sim.region0 ?_
        refine SimI.run 2 [(3, .one (li .i64 r3.2.1)), (21, .one (li .i64 r3.2.1))] [] (by kernel_rfl) ?_
        refine SimI.done (by kernel_rfl) ?_
        refine SimE.thenN ?_
        refine Sim.ret ?_
        refine SimE.thenR ?_
        refine SimE.blockR ?_
        refine SimE.thenR ?_
        refine SimE.loopR ?_
        refine SimE.blockR ?_
        refine SimE.thenR ?_
        exact SimE.fin (by kernel_rfl)
      · refine Sim.skip ?_
        refine SimE.thenN ?_
        refine Sim.region0 ?_
        refine SimI.run 6 [(26, .one (.ptr 1000001 17)), (25, .one (li .i64 (imin (imax r3.1 (-1000001)) 1000001))), (24, .one (li .i64 (imax r3.1 (-1000001)))), (23, .one (li .i64 r3.1)), (22, .one (.ptr 1000001 17))] [(1000001, some (.cells [li .i64 (imin (imax r1.1 (-1000001)) 1000001), li .i64 a0.ID, li .i64 a0.Which, li .i64 a0.To, li .i64 a0.At.X, li .i64 a0.At.Y, li .i64 a0.F.a0.N, ls a0.F.a0.Text, li .i64 a0.F.a1.N, ls a0.F.a1.Text, li .i64 a0.F.a2.N, ls a0.F.a2.Text, li .i64 a0.F.a3.N, ls a0.F.a3.Text, li .i64 a0.Value.N, ls a0.Value.Text, li .i64 (imin (imax r2.1 (-1000001)) 1000001), li .i64 (imin (imax r3.1 (-1000001)) 1000001), li .i64 a0.Rect.X0, li .i64 a0.Rect.Y0, li .i64 a0.Rect.X1, li .i64 a0.Rect.Y1]))] (by kernel_rfl) ?_
        refine SimI.done (by kernel_rfl) ?_
        refine SimE.blockN ?_
        refine SimE.thenN ?_
        refine Sim.region0 ?_
        refine SimI.run 2 [(10, .one (li .i64 3)), (27, .one (li .i64 3))] [] (by kernel_rfl) ?_
        refine SimI.done (by kernel_rfl) ?_
        refine SimE.loopN ?_
        refine SimL.succ ?_
        refine Sim.seq ?_
        refine Sim.region [(1, .one (.ptr 1000002 0)), (8, .one (.csl 1000000 1 0 3)), (9, .one (li .i64 3)), (10, .one (li .i64 3))] [(1000000, some (.cells [.ptr 1000001 0, .ptr 1000001 16, .ptr 1000001 17])), (1000001, some (.cells [li .i64 (imin (imax r1.1 (-1000001)) 1000001), li .i64 a0.ID, li .i64 a0.Which, li .i64 a0.To, li .i64 a0.At.X, li .i64 a0.At.Y, li .i64 a0.F.a0.N, ls a0.F.a0.Text, li .i64 a0.F.a1.N, ls a0.F.a1.Text, li .i64 a0.F.a2.N, ls a0.F.a2.Text, li .i64 a0.F.a3.N, ls a0.F.a3.Text, li .i64 a0.Value.N, ls a0.Value.Text, li .i64 (imin (imax r2.1 (-1000001)) 1000001), li .i64 (imin (imax r3.1 (-1000001)) 1000001), li .i64 a0.Rect.X0, li .i64 a0.Rect.Y0, li .i64 a0.Rect.X1, li .i64 a0.Rect.Y1])), (1000002, some (.cells [.fn 64 [.ptr 1000003 0, .ptr 1000004 0]])), (1000003, some (.cells [ls a1])), (1000004, some (.cells [li .i64 r3.2.2]))] (by kernel_rfl) ?_
        refine SimI.run 1 [(11, .one (lb false))] [] (by kernel_rfl) ?_
        refine SimI.done (by kernel_rfl) ?_
        refine SimE.thenN ?_
        refine Sim.seq ?_
        refine Sim.condF (by kernel_rfl) ?_
        refine Sim.exit ?_
        refine SimE.thenX ?_
        refine SimE.loopX ?_
        refine SimE.blockX ?_
        refine SimE.thenN ?_
        refine Sim.seq ?_
        refine Sim.region0 ?_
        refine SimI.run 1 [(3, .one (li .i64 0))] [] (by kernel_rfl) ?_
        refine SimI.done (by kernel_rfl) ?_
        refine SimE.thenN ?_
        refine Sim.ret ?_
        exact SimE.fin (by kernel_rfl)

def F66s1_e (a0 : Command) (a1 : ByteArray) (a2 : Int) : (Int × Command × Int) → PV × List Ob := fun r => (.one (li .i64 r.1), [.cells [.ptr 1000001 18, .ptr 1000001 19, .ptr 1000001 20, .ptr 1000001 21], .cells (Command.cells r.2.1), .cells [.fn 64 [.ptr 1000003 0, .ptr 1000004 0]], .cells [ls a1], .cells [li .i64 r.2.2]])
def F66s1 (n : Nat) (a0 : Command) (a1 : ByteArray) (a2 : Int) : Option (Int × Command × Int) :=
  (F64s0 n a1 a2).bind fun (r1 : (Int × Int × Int)) =>
  if r1.2.1 != 0 then
    some (r1.2.1, a0, r1.2.2)
  else
    (F64s0 n a1 r1.2.2).bind fun (r2 : (Int × Int × Int)) =>
    if r2.2.1 != 0 then
      some (r2.2.1, (Command.mk a0.Kind a0.ID a0.Which a0.To a0.At a0.F a0.Value a0.Client a0.Session (Rect.mk (imin (imax r1.1 (-1000001)) 1000001) a0.Rect.Y0 a0.Rect.X1 a0.Rect.Y1)), r2.2.2)
    else
      (F64s0 n a1 r2.2.2).bind fun (r3 : (Int × Int × Int)) =>
      if r3.2.1 != 0 then
        some (r3.2.1, (Command.mk a0.Kind a0.ID a0.Which a0.To a0.At a0.F a0.Value a0.Client a0.Session (Rect.mk (imin (imax r1.1 (-1000001)) 1000001) (imin (imax r2.1 (-1000001)) 1000001) a0.Rect.X1 a0.Rect.Y1)), r3.2.2)
      else
        (F64s0 n a1 r3.2.2).bind fun (r4 : (Int × Int × Int)) =>
        if r4.2.1 != 0 then
          some (r4.2.1, (Command.mk a0.Kind a0.ID a0.Which a0.To a0.At a0.F a0.Value a0.Client a0.Session (Rect.mk (imin (imax r1.1 (-1000001)) 1000001) (imin (imax r2.1 (-1000001)) 1000001) (imin (imax r3.1 (-1000001)) 1000001) a0.Rect.Y1)), r4.2.2)
        else
          some (0, (Command.mk a0.Kind a0.ID a0.Which a0.To a0.At a0.F a0.Value a0.Client a0.Session (Rect.mk (imin (imax r1.1 (-1000001)) 1000001) (imin (imax r2.1 (-1000001)) 1000001) (imin (imax r3.1 (-1000001)) 1000001) (imin (imax r4.1 (-1000001)) 1000001))), r4.2.2)
theorem F66s1_ok (n : Nat) (a0 : Command) (a1 : ByteArray) (a2 : Int) : ∀ r, F66s1 n a0 a1 a2 = some r → D 66 [.one (.csl 1000000 1 0 4), .one (.ptr 1000002 0)] [.cells [.ptr 1000001 18, .ptr 1000001 19, .ptr 1000001 20, .ptr 1000001 21], .cells (Command.cells a0), .cells [.fn 64 [.ptr 1000003 0, .ptr 1000004 0]], .cells [ls a1], .cells [li .i64 a2]] = some ((F66s1_e a0 a1 a2) r) := by
  refine fn_to (D := D) (n := n + 8) (nt := 28) (rs := pc66_r) (c := pc66_c32) (L := [(0, .one (.csl 1000000 1 0 4)), (1, .one (.ptr 1000002 0))]) (M := [(1000000, some (.cells [.ptr 1000001 18, .ptr 1000001 19, .ptr 1000001 20, .ptr 1000001 21])), (1000001, some (.cells (Command.cells a0))), (1000002, some (.cells [.fn 64 [.ptr 1000003 0, .ptr 1000004 0]])), (1000003, some (.cells [ls a1])), (1000004, some (.cells [li .i64 a2]))]) (k := 5) rfl rfl rfl rfl rfl rfl rfl ?_
  unfold F66s1
  refine Sim.seq ?_
  refine Sim.region0 ?_
  refine SimI.run 1 [(3, .one (li .i64 0))] [] (by kernel_rfl) ?_
  refine SimI.done (by kernel_rfl) ?_
  refine SimE.thenN ?_
  refine Sim.seq ?_
  refine Sim.seq ?_
  refine Sim.region0 ?_
  refine SimI.run 3 [(10, .one (li .i64 0)), (9, .one (li .i64 4)), (8, .one (.csl 1000000 1 0 4))] [] (by kernel_rfl) ?_
  refine SimI.done (by kernel_rfl) ?_
  refine SimE.thenN ?_
  refine Sim.block ?_
  refine Sim.loop ?_
  refine SimL.succ ?_
  refine Sim.seq ?_
  refine Sim.region [(1, .one (.ptr 1000002 0)), (8, .one (.csl 1000000 1 0 4)), (9, .one (li .i64 4)), (10, .one (li .i64 0))] [(1000000, some (.cells [.ptr 1000001 18, .ptr 1000001 19, .ptr 1000001 20, .ptr 1000001 21])), (1000001, some (.cells (Command.cells a0))), (1000002, some (.cells [.fn 64 [.ptr 1000003 0, .ptr 1000004 0]])), (1000003, some (.cells [ls a1])), (1000004, some (.cells [li .i64 a2]))] (by kernel_rfl) ?_
  refine SimI.run 1 [(11, .one (lb true))] [] (by kernel_rfl) ?_
  refine SimI.done (by kernel_rfl) ?_
  refine SimE.thenN ?_
  refine Sim.seq ?_
  refine Sim.condT (by kernel_rfl) ?_
  refine Sim.skip ?_
  refine SimE.thenN ?_
  refine Sim.seq ?_
  refine Sim.block ?_
  refine Sim.seq ?_
  refine Sim.region0 ?_
  refine SimI.run 3 [(5, .one (.ptr 1000001 18)), (13, .one (.ptr 1000001 18)), (12, .one (.ptr 1000000 0))] [] (by kernel_rfl) ?_
  refine SimI.done (by kernel_rfl) ?_
  refine SimE.thenN ?_
  refine Sim.seq ?_
  refine Sim.region0 ?_
  refine SimI.run 1 [(15, .one (.fn 64 [.ptr 1000003 0, .ptr 1000004 0]))] [] (by kernel_rfl) ?_
  refine SimI.bind (og := F64s0 n a1 a2) { dst := some 16, op := POp.gcallv false false [300000, 300001, 300002, 300003, 300004, 300005, 300006, 300007, 1000003, 1000004] [] (Operand.tmp 15) [], guard := none, hints := [] } (fun r1 => [(16, .tup [.one (li .i64 r1.1), .one (li .i64 r1.2.1)])]) (fun r1 => [(1000003, some (.cells [ls a1])), (1000004, some (.cells [li .i64 r1.2.2]))]) (by kernel_rfl) (fun r1 hr => pOp_eff (by kernel_rfl) (by kernel_rfl) (eff_gcallv (ks := [1000003, 1000004]) (rks := []) (new := []) (ARGS := [.one (.ptr 1000003 0), .one (.ptr 1000004 0)]) (args1 := [.one (.ptr 1000003 0), .one (.ptr 1000004 0)]) (args2 := [.one (.ptr 1000000 0), .one (.ptr 1000001 0)]) (os := [.cells [ls a1], .cells [li .i64 a2]]) (os' := [.cells [ls a1], .cells [li .i64 r1.2.2]]) (os1 := [.cells [ls a1], .cells [li .i64 r1.2.2]]) (res := .tup [.one (li .i64 r1.1), .one (li .i64 r1.2.1)]) (res1 := .tup [.one (li .i64 r1.1), .one (li .i64 r1.2.1)]) (r := .tup [.one (li .i64 r1.1), .one (li .i64 r1.2.1)]) (N := [(1000003, some (.cells [ls a1])), (1000004, some (.cells [li .i64 r1.2.2]))]) (caps := [.ptr 1000003 0, .ptr 1000004 0]) (by kernel_rfl) (by kernel_rfl) (readA_ow (readA_keep (by kernel_rfl) (readA_keep (by kernel_rfl) (readA_nil)))) (by kernel_rfl) (by kernel_rfl) (by kernel_rfl) (by kernel_rfl) (F64s0_ok n a1 a2 r1 hr) (by kernel_rfl) (by kernel_rfl) (by kernel_rfl) rfl (by kernel_rfl) (by kernel_rfl) (by kernel_rfl))) (fun r1 => ?_)
  refine SimI.run 5 [(7, .one (li .i64 r1.2.1)), (6, .one (li .i64 r1.1)), (18, .one (li .i64 r1.2.1)), (17, .one (li .i64 r1.1)), (14, .tup [.one (li .i64 r1.1), .one (li .i64 r1.2.1)])] [] (by kernel_rfl) ?_
  refine SimI.done (by kernel_rfl) ?_
  refine SimE.thenN ?_
  refine Sim.seq ?_
  refine Sim.seq ?_
  refine Sim.region0 ?_
  refine SimI.run 2 [(20, .one (lb (r1.2.1 != 0))), (19, .one (li .i64 r1.2.1))] [] (by kernel_rfl) ?_
  refine SimI.done (by kernel_rfl) ?_
  refine SimE.thenN ?_
  refine Sim.cond (r1.2.1 != 0) (by kernel_rfl) ?_ ?_
  · refine Sim.seq ?_
    refine Sim.region0 ?_
    refine SimI.run 2 [(3, .one (li .i64 r1.2.1)), (21, .one (li .i64 r1.2.1))] [] (by kernel_rfl) ?_
    refine SimI.done (by kernel_rfl) ?_
    refine SimE.thenN ?_
    refine Sim.ret ?_
    refine SimE.thenR ?_
    refine SimE.blockR ?_
    refine SimE.thenR ?_
    refine SimE.loopR ?_
    refine SimE.blockR ?_
    refine SimE.thenR ?_
    exact SimE.fin (by kernel_rfl)
  · refine Sim.skip ?_
    refine SimE.thenN ?_
    refine Sim.region0 ?_
    refine SimI.run 6 [(26, .one (.ptr 1000001 18)), (25, .one (li .i64 (imin (imax r1.1 (-1000001)) 1000001))), (24, .one (li .i64 (imax r1.1 (-1000001)))), (23, .one (li .i64 r1.1)), (22, .one (.ptr 1000001 18))] [(1000001, some (.cells [li .i64 a0.Kind, li .i64 a0.ID, li .i64 a0.Which, li .i64 a0.To, li .i64 a0.At.X, li .i64 a0.At.Y, li .i64 a0.F.a0.N, ls a0.F.a0.Text, li .i64 a0.F.a1.N, ls a0.F.a1.Text, li .i64 a0.F.a2.N, ls a0.F.a2.Text, li .i64 a0.F.a3.N, ls a0.F.a3.Text, li .i64 a0.Value.N, ls a0.Value.Text, li .i64 a0.Client, li .i64 a0.Session, li .i64 (imin (imax r1.1 (-1000001)) 1000001), li .i64 a0.Rect.Y0, li .i64 a0.Rect.X1, li .i64 a0.Rect.Y1]))] (by kernel_rfl) ?_
    refine SimI.done (by kernel_rfl) ?_
    refine SimE.blockN ?_
    refine SimE.thenN ?_
    refine Sim.region0 ?_
    refine SimI.run 2 [(10, .one (li .i64 1)), (27, .one (li .i64 1))] [] (by kernel_rfl) ?_
    refine SimI.done (by kernel_rfl) ?_
    refine SimE.loopN ?_
    refine SimL.succ ?_
    refine Sim.seq ?_
    refine Sim.region [(1, .one (.ptr 1000002 0)), (8, .one (.csl 1000000 1 0 4)), (9, .one (li .i64 4)), (10, .one (li .i64 1))] [(1000000, some (.cells [.ptr 1000001 18, .ptr 1000001 19, .ptr 1000001 20, .ptr 1000001 21])), (1000001, some (.cells [li .i64 a0.Kind, li .i64 a0.ID, li .i64 a0.Which, li .i64 a0.To, li .i64 a0.At.X, li .i64 a0.At.Y, li .i64 a0.F.a0.N, ls a0.F.a0.Text, li .i64 a0.F.a1.N, ls a0.F.a1.Text, li .i64 a0.F.a2.N, ls a0.F.a2.Text, li .i64 a0.F.a3.N, ls a0.F.a3.Text, li .i64 a0.Value.N, ls a0.Value.Text, li .i64 a0.Client, li .i64 a0.Session, li .i64 (imin (imax r1.1 (-1000001)) 1000001), li .i64 a0.Rect.Y0, li .i64 a0.Rect.X1, li .i64 a0.Rect.Y1])), (1000002, some (.cells [.fn 64 [.ptr 1000003 0, .ptr 1000004 0]])), (1000003, some (.cells [ls a1])), (1000004, some (.cells [li .i64 r1.2.2]))] (by kernel_rfl) ?_
    refine SimI.run 1 [(11, .one (lb true))] [] (by kernel_rfl) ?_
    refine SimI.done (by kernel_rfl) ?_
    refine SimE.thenN ?_
    refine Sim.seq ?_
    refine Sim.condT (by kernel_rfl) ?_
    refine Sim.skip ?_
    refine SimE.thenN ?_
    refine Sim.seq ?_
    refine Sim.block ?_
    refine Sim.seq ?_
    refine Sim.region0 ?_
    refine SimI.run 3 [(5, .one (.ptr 1000001 19)), (13, .one (.ptr 1000001 19)), (12, .one (.ptr 1000000 1))] [] (by kernel_rfl) ?_
    refine SimI.done (by kernel_rfl) ?_
    refine SimE.thenN ?_
    refine Sim.seq ?_
    refine Sim.region0 ?_
    refine SimI.run 1 [(15, .one (.fn 64 [.ptr 1000003 0, .ptr 1000004 0]))] [] (by kernel_rfl) ?_
    refine SimI.bind (og := F64s0 n a1 r1.2.2) { dst := some 16, op := POp.gcallv false false [300000, 300001, 300002, 300003, 300004, 300005, 300006, 300007, 1000003, 1000004] [] (Operand.tmp 15) [], guard := none, hints := [] } (fun r2 => [(16, .tup [.one (li .i64 r2.1), .one (li .i64 r2.2.1)])]) (fun r2 => [(1000003, some (.cells [ls a1])), (1000004, some (.cells [li .i64 r2.2.2]))]) (by kernel_rfl) (fun r2 hr => pOp_eff (by kernel_rfl) (by kernel_rfl) (eff_gcallv (ks := [1000003, 1000004]) (rks := []) (new := []) (ARGS := [.one (.ptr 1000003 0), .one (.ptr 1000004 0)]) (args1 := [.one (.ptr 1000003 0), .one (.ptr 1000004 0)]) (args2 := [.one (.ptr 1000000 0), .one (.ptr 1000001 0)]) (os := [.cells [ls a1], .cells [li .i64 r1.2.2]]) (os' := [.cells [ls a1], .cells [li .i64 r2.2.2]]) (os1 := [.cells [ls a1], .cells [li .i64 r2.2.2]]) (res := .tup [.one (li .i64 r2.1), .one (li .i64 r2.2.1)]) (res1 := .tup [.one (li .i64 r2.1), .one (li .i64 r2.2.1)]) (r := .tup [.one (li .i64 r2.1), .one (li .i64 r2.2.1)]) (N := [(1000003, some (.cells [ls a1])), (1000004, some (.cells [li .i64 r2.2.2]))]) (caps := [.ptr 1000003 0, .ptr 1000004 0]) (by kernel_rfl) (by kernel_rfl) (readA_ow (readA_keep (by kernel_rfl) (readA_keep (by kernel_rfl) (readA_nil)))) (by kernel_rfl) (by kernel_rfl) (by kernel_rfl) (by kernel_rfl) (F64s0_ok n a1 r1.2.2 r2 hr) (by kernel_rfl) (by kernel_rfl) (by kernel_rfl) rfl (by kernel_rfl) (by kernel_rfl) (by kernel_rfl))) (fun r2 => ?_)
    refine SimI.run 5 [(7, .one (li .i64 r2.2.1)), (6, .one (li .i64 r2.1)), (18, .one (li .i64 r2.2.1)), (17, .one (li .i64 r2.1)), (14, .tup [.one (li .i64 r2.1), .one (li .i64 r2.2.1)])] [] (by kernel_rfl) ?_
    refine SimI.done (by kernel_rfl) ?_
    refine SimE.thenN ?_
    refine Sim.seq ?_
    refine Sim.seq ?_
    refine Sim.region0 ?_
    refine SimI.run 2 [(20, .one (lb (r2.2.1 != 0))), (19, .one (li .i64 r2.2.1))] [] (by kernel_rfl) ?_
    refine SimI.done (by kernel_rfl) ?_
    refine SimE.thenN ?_
    refine Sim.cond (r2.2.1 != 0) (by kernel_rfl) ?_ ?_
    · refine Sim.seq ?_
      refine Sim.region0 ?_
      refine SimI.run 2 [(3, .one (li .i64 r2.2.1)), (21, .one (li .i64 r2.2.1))] [] (by kernel_rfl) ?_
      refine SimI.done (by kernel_rfl) ?_
      refine SimE.thenN ?_
      refine Sim.ret ?_
      refine SimE.thenR ?_
      refine SimE.blockR ?_
      refine SimE.thenR ?_
      refine SimE.loopR ?_
      refine SimE.blockR ?_
      refine SimE.thenR ?_
      exact SimE.fin (by kernel_rfl)
    · refine Sim.skip ?_
      refine SimE.thenN ?_
      refine Sim.region0 ?_
      refine SimI.run 6 [(26, .one (.ptr 1000001 19)), (25, .one (li .i64 (imin (imax r2.1 (-1000001)) 1000001))), (24, .one (li .i64 (imax r2.1 (-1000001)))), (23, .one (li .i64 r2.1)), (22, .one (.ptr 1000001 19))] [(1000001, some (.cells [li .i64 a0.Kind, li .i64 a0.ID, li .i64 a0.Which, li .i64 a0.To, li .i64 a0.At.X, li .i64 a0.At.Y, li .i64 a0.F.a0.N, ls a0.F.a0.Text, li .i64 a0.F.a1.N, ls a0.F.a1.Text, li .i64 a0.F.a2.N, ls a0.F.a2.Text, li .i64 a0.F.a3.N, ls a0.F.a3.Text, li .i64 a0.Value.N, ls a0.Value.Text, li .i64 a0.Client, li .i64 a0.Session, li .i64 (imin (imax r1.1 (-1000001)) 1000001), li .i64 (imin (imax r2.1 (-1000001)) 1000001), li .i64 a0.Rect.X1, li .i64 a0.Rect.Y1]))] (by kernel_rfl) ?_
      refine SimI.done (by kernel_rfl) ?_
      refine SimE.blockN ?_
      refine SimE.thenN ?_
      refine Sim.region0 ?_
      refine SimI.run 2 [(10, .one (li .i64 2)), (27, .one (li .i64 2))] [] (by kernel_rfl) ?_
      refine SimI.done (by kernel_rfl) ?_
      refine SimE.loopN ?_
      refine SimL.succ ?_
      refine Sim.seq ?_
      refine Sim.region [(1, .one (.ptr 1000002 0)), (8, .one (.csl 1000000 1 0 4)), (9, .one (li .i64 4)), (10, .one (li .i64 2))] [(1000000, some (.cells [.ptr 1000001 18, .ptr 1000001 19, .ptr 1000001 20, .ptr 1000001 21])), (1000001, some (.cells [li .i64 a0.Kind, li .i64 a0.ID, li .i64 a0.Which, li .i64 a0.To, li .i64 a0.At.X, li .i64 a0.At.Y, li .i64 a0.F.a0.N, ls a0.F.a0.Text, li .i64 a0.F.a1.N, ls a0.F.a1.Text, li .i64 a0.F.a2.N, ls a0.F.a2.Text, li .i64 a0.F.a3.N, ls a0.F.a3.Text, li .i64 a0.Value.N, ls a0.Value.Text, li .i64 a0.Client, li .i64 a0.Session, li .i64 (imin (imax r1.1 (-1000001)) 1000001), li .i64 (imin (imax r2.1 (-1000001)) 1000001), li .i64 a0.Rect.X1, li .i64 a0.Rect.Y1])), (1000002, some (.cells [.fn 64 [.ptr 1000003 0, .ptr 1000004 0]])), (1000003, some (.cells [ls a1])), (1000004, some (.cells [li .i64 r2.2.2]))] (by kernel_rfl) ?_
      refine SimI.run 1 [(11, .one (lb true))] [] (by kernel_rfl) ?_
      refine SimI.done (by kernel_rfl) ?_
      refine SimE.thenN ?_
      refine Sim.seq ?_
      refine Sim.condT (by kernel_rfl) ?_
      refine Sim.skip ?_
      refine SimE.thenN ?_
      refine Sim.seq ?_
      refine Sim.block ?_
      refine Sim.seq ?_
      refine Sim.region0 ?_
      refine SimI.run 3 [(5, .one (.ptr 1000001 20)), (13, .one (.ptr 1000001 20)), (12, .one (.ptr 1000000 2))] [] (by kernel_rfl) ?_
      refine SimI.done (by kernel_rfl) ?_
      refine SimE.thenN ?_
      refine Sim.seq ?_
      refine Sim.region0 ?_
      refine SimI.run 1 [(15, .one (.fn 64 [.ptr 1000003 0, .ptr 1000004 0]))] [] (by kernel_rfl) ?_
      refine SimI.bind (og := F64s0 n a1 r2.2.2) { dst := some 16, op := POp.gcallv false false [300000, 300001, 300002, 300003, 300004, 300005, 300006, 300007, 1000003, 1000004] [] (Operand.tmp 15) [], guard := none, hints := [] } (fun r3 => [(16, .tup [.one (li .i64 r3.1), .one (li .i64 r3.2.1)])]) (fun r3 => [(1000003, some (.cells [ls a1])), (1000004, some (.cells [li .i64 r3.2.2]))]) (by kernel_rfl) (fun r3 hr => pOp_eff (by kernel_rfl) (by kernel_rfl) (eff_gcallv (ks := [1000003, 1000004]) (rks := []) (new := []) (ARGS := [.one (.ptr 1000003 0), .one (.ptr 1000004 0)]) (args1 := [.one (.ptr 1000003 0), .one (.ptr 1000004 0)]) (args2 := [.one (.ptr 1000000 0), .one (.ptr 1000001 0)]) (os := [.cells [ls a1], .cells [li .i64 r2.2.2]]) (os' := [.cells [ls a1], .cells [li .i64 r3.2.2]]) (os1 := [.cells [ls a1], .cells [li .i64 r3.2.2]]) (res := .tup [.one (li .i64 r3.1), .one (li .i64 r3.2.1)]) (res1 := .tup [.one (li .i64 r3.1), .one (li .i64 r3.2.1)]) (r := .tup [.one (li .i64 r3.1), .one (li .i64 r3.2.1)]) (N := [(1000003, some (.cells [ls a1])), (1000004, some (.cells [li .i64 r3.2.2]))]) (caps := [.ptr 1000003 0, .ptr 1000004 0]) (by kernel_rfl) (by kernel_rfl) (readA_ow (readA_keep (by kernel_rfl) (readA_keep (by kernel_rfl) (readA_nil)))) (by kernel_rfl) (by kernel_rfl) (by kernel_rfl) (by kernel_rfl) (F64s0_ok n a1 r2.2.2 r3 hr) (by kernel_rfl) (by kernel_rfl) (by kernel_rfl) rfl (by kernel_rfl) (by kernel_rfl) (by kernel_rfl))) (fun r3 => ?_)
      refine SimI.run 5 [(7, .one (li .i64 r3.2.1)), (6, .one (li .i64 r3.1)), (18, .one (li .i64 r3.2.1)), (17, .one (li .i64 r3.1)), (14, .tup [.one (li .i64 r3.1), .one (li .i64 r3.2.1)])] [] (by kernel_rfl) ?_
      refine SimI.done (by kernel_rfl) ?_
      refine SimE.thenN ?_
      refine Sim.seq ?_
      refine Sim.seq ?_
      refine Sim.region0 ?_
      refine SimI.run 2 [(20, .one (lb (r3.2.1 != 0))), (19, .one (li .i64 r3.2.1))] [] (by kernel_rfl) ?_
      refine SimI.done (by kernel_rfl) ?_
      refine SimE.thenN ?_
      refine Sim.cond (r3.2.1 != 0) (by kernel_rfl) ?_ ?_
      · refine Sim.seq ?_
        refine Sim.region0 ?_
        refine SimI.run 2 [(3, .one (li .i64 r3.2.1)), (21, .one (li .i64 r3.2.1))] [] (by kernel_rfl) ?_
        refine SimI.done (by kernel_rfl) ?_
        refine SimE.thenN ?_
        refine Sim.ret ?_
        refine SimE.thenR ?_
        refine SimE.blockR ?_
        refine SimE.thenR ?_
        refine SimE.loopR ?_
        refine SimE.blockR ?_
        refine SimE.thenR ?_
        exact SimE.fin (by kernel_rfl)
      · refine Sim.skip ?_
        refine SimE.thenN ?_
        refine Sim.region0 ?_
        refine SimI.run 6 [(26, .one (.ptr 1000001 20)), (25, .one (li .i64 (imin (imax r3.1 (-1000001)) 1000001))), (24, .one (li .i64 (imax r3.1 (-1000001)))), (23, .one (li .i64 r3.1)), (22, .one (.ptr 1000001 20))] [(1000001, some (.cells [li .i64 a0.Kind, li .i64 a0.ID, li .i64 a0.Which, li .i64 a0.To, li .i64 a0.At.X, li .i64 a0.At.Y, li .i64 a0.F.a0.N, ls a0.F.a0.Text, li .i64 a0.F.a1.N, ls a0.F.a1.Text, li .i64 a0.F.a2.N, ls a0.F.a2.Text, li .i64 a0.F.a3.N, ls a0.F.a3.Text, li .i64 a0.Value.N, ls a0.Value.Text, li .i64 a0.Client, li .i64 a0.Session, li .i64 (imin (imax r1.1 (-1000001)) 1000001), li .i64 (imin (imax r2.1 (-1000001)) 1000001), li .i64 (imin (imax r3.1 (-1000001)) 1000001), li .i64 a0.Rect.Y1]))] (by kernel_rfl) ?_
        refine SimI.done (by kernel_rfl) ?_
        refine SimE.blockN ?_
        refine SimE.thenN ?_
        refine Sim.region0 ?_
        refine SimI.run 2 [(10, .one (li .i64 3)), (27, .one (li .i64 3))] [] (by kernel_rfl) ?_
        refine SimI.done (by kernel_rfl) ?_
        refine SimE.loopN ?_
        refine SimL.succ ?_
        refine Sim.seq ?_
        refine Sim.region [(1, .one (.ptr 1000002 0)), (8, .one (.csl 1000000 1 0 4)), (9, .one (li .i64 4)), (10, .one (li .i64 3))] [(1000000, some (.cells [.ptr 1000001 18, .ptr 1000001 19, .ptr 1000001 20, .ptr 1000001 21])), (1000001, some (.cells [li .i64 a0.Kind, li .i64 a0.ID, li .i64 a0.Which, li .i64 a0.To, li .i64 a0.At.X, li .i64 a0.At.Y, li .i64 a0.F.a0.N, ls a0.F.a0.Text, li .i64 a0.F.a1.N, ls a0.F.a1.Text, li .i64 a0.F.a2.N, ls a0.F.a2.Text, li .i64 a0.F.a3.N, ls a0.F.a3.Text, li .i64 a0.Value.N, ls a0.Value.Text, li .i64 a0.Client, li .i64 a0.Session, li .i64 (imin (imax r1.1 (-1000001)) 1000001), li .i64 (imin (imax r2.1 (-1000001)) 1000001), li .i64 (imin (imax r3.1 (-1000001)) 1000001), li .i64 a0.Rect.Y1])), (1000002, some (.cells [.fn 64 [.ptr 1000003 0, .ptr 1000004 0]])), (1000003, some (.cells [ls a1])), (1000004, some (.cells [li .i64 r3.2.2]))] (by kernel_rfl) ?_
        refine SimI.run 1 [(11, .one (lb true))] [] (by kernel_rfl) ?_
        refine SimI.done (by kernel_rfl) ?_
        refine SimE.thenN ?_
        refine Sim.seq ?_
        refine Sim.condT (by kernel_rfl) ?_
        refine Sim.skip ?_
        refine SimE.thenN ?_
        refine Sim.seq ?_
        refine Sim.block ?_
        refine Sim.seq ?_
        refine Sim.region0 ?_
        refine SimI.run 3 [(5, .one (.ptr 1000001 21)), (13, .one (.ptr 1000001 21)), (12, .one (.ptr 1000000 3))] [] (by kernel_rfl) ?_
        refine SimI.done (by kernel_rfl) ?_
        refine SimE.thenN ?_
        refine Sim.seq ?_
        refine Sim.region0 ?_
        refine SimI.run 1 [(15, .one (.fn 64 [.ptr 1000003 0, .ptr 1000004 0]))] [] (by kernel_rfl) ?_
        refine SimI.bind (og := F64s0 n a1 r3.2.2) { dst := some 16, op := POp.gcallv false false [300000, 300001, 300002, 300003, 300004, 300005, 300006, 300007, 1000003, 1000004] [] (Operand.tmp 15) [], guard := none, hints := [] } (fun r4 => [(16, .tup [.one (li .i64 r4.1), .one (li .i64 r4.2.1)])]) (fun r4 => [(1000003, some (.cells [ls a1])), (1000004, some (.cells [li .i64 r4.2.2]))]) (by kernel_rfl) (fun r4 hr => pOp_eff (by kernel_rfl) (by kernel_rfl) (eff_gcallv (ks := [1000003, 1000004]) (rks := []) (new := []) (ARGS := [.one (.ptr 1000003 0), .one (.ptr 1000004 0)]) (args1 := [.one (.ptr 1000003 0), .one (.ptr 1000004 0)]) (args2 := [.one (.ptr 1000000 0), .one (.ptr 1000001 0)]) (os := [.cells [ls a1], .cells [li .i64 r3.2.2]]) (os' := [.cells [ls a1], .cells [li .i64 r4.2.2]]) (os1 := [.cells [ls a1], .cells [li .i64 r4.2.2]]) (res := .tup [.one (li .i64 r4.1), .one (li .i64 r4.2.1)]) (res1 := .tup [.one (li .i64 r4.1), .one (li .i64 r4.2.1)]) (r := .tup [.one (li .i64 r4.1), .one (li .i64 r4.2.1)]) (N := [(1000003, some (.cells [ls a1])), (1000004, some (.cells [li .i64 r4.2.2]))]) (caps := [.ptr 1000003 0, .ptr 1000004 0]) (by kernel_rfl) (by kernel_rfl) (readA_ow (readA_keep (by kernel_rfl) (readA_keep (by kernel_rfl) (readA_nil)))) (by kernel_rfl) (by kernel_rfl) (by kernel_rfl) (by kernel_rfl) (F64s0_ok n a1 r3.2.2 r4 hr) (by kernel_rfl) (by kernel_rfl) (by kernel_rfl) rfl (by kernel_rfl) (by kernel_rfl) (by kernel_rfl))) (fun r4 => ?_)
        refine SimI.run 5 [(7, .one (li .i64 r4.2.1)), (6, .one (li .i64 r4.1)), (18, .one (li .i64 r4.2.1)), (17, .one (li .i64 r4.1)), (14, .tup [.one (li .i64 r4.1), .one (li .i64 r4.2.1)])] [] (by kernel_rfl) ?_
        refine SimI.done (by kernel_rfl) ?_
        refine SimE.thenN ?_
        refine Sim.seq ?_
        refine Sim.seq ?_
        refine Sim.region0 ?_
        refine SimI.run 2 [(20, .one (lb (r4.2.1 != 0))), (19, .one (li .i64 r4.2.1))] [] (by kernel_rfl) ?_
        refine SimI.done (by kernel_rfl) ?_
        refine SimE.thenN ?_
        refine Sim.cond (r4.2.1 != 0) (by kernel_rfl) ?_ ?_
        · refine Sim.seq ?_
          refine Sim.region0 ?_
          refine SimI.run 2 [(3, .one (li .i64 r4.2.1)), (21, .one (li .i64 r4.2.1))] [] (by kernel_rfl) ?_
          refine SimI.done (by kernel_rfl) ?_
          refine SimE.thenN ?_
          refine Sim.ret ?_
          refine SimE.thenR ?_
          refine SimE.blockR ?_
          refine SimE.thenR ?_
          refine SimE.loopR ?_
          refine SimE.blockR ?_
          refine SimE.thenR ?_
          exact SimE.fin (by kernel_rfl)
        · refine Sim.skip ?_
          refine SimE.thenN ?_
          refine Sim.region0 ?_
          refine SimI.run 6 [(26, .one (.ptr 1000001 21)), (25, .one (li .i64 (imin (imax r4.1 (-1000001)) 1000001))), (24, .one (li .i64 (imax r4.1 (-1000001)))), (23, .one (li .i64 r4.1)), (22, .one (.ptr 1000001 21))] [(1000001, some (.cells [li .i64 a0.Kind, li .i64 a0.ID, li .i64 a0.Which, li .i64 a0.To, li .i64 a0.At.X, li .i64 a0.At.Y, li .i64 a0.F.a0.N, ls a0.F.a0.Text, li .i64 a0.F.a1.N, ls a0.F.a1.Text, li .i64 a0.F.a2.N, ls a0.F.a2.Text, li .i64 a0.F.a3.N, ls a0.F.a3.Text, li .i64 a0.Value.N, ls a0.Value.Text, li .i64 a0.Client, li .i64 a0.Session, li .i64 (imin (imax r1.1 (-1000001)) 1000001), li .i64 (imin (imax r2.1 (-1000001)) 1000001), li .i64 (imin (imax r3.1 (-1000001)) 1000001), li .i64 (imin (imax r4.1 (-1000001)) 1000001)]))] (by kernel_rfl) ?_
          refine SimI.done (by kernel_rfl) ?_
          refine SimE.blockN ?_
          refine SimE.thenN ?_
          refine Sim.region0 ?_
          refine SimI.run 2 [(10, .one (li .i64 4)), (27, .one (li .i64 4))] [] (by kernel_rfl) ?_
          refine SimI.done (by kernel_rfl) ?_
          refine SimE.loopN ?_
          refine SimL.succ ?_
          refine Sim.seq ?_
          refine Sim.region [(1, .one (.ptr 1000002 0)), (8, .one (.csl 1000000 1 0 4)), (9, .one (li .i64 4)), (10, .one (li .i64 4))] [(1000000, some (.cells [.ptr 1000001 18, .ptr 1000001 19, .ptr 1000001 20, .ptr 1000001 21])), (1000001, some (.cells [li .i64 a0.Kind, li .i64 a0.ID, li .i64 a0.Which, li .i64 a0.To, li .i64 a0.At.X, li .i64 a0.At.Y, li .i64 a0.F.a0.N, ls a0.F.a0.Text, li .i64 a0.F.a1.N, ls a0.F.a1.Text, li .i64 a0.F.a2.N, ls a0.F.a2.Text, li .i64 a0.F.a3.N, ls a0.F.a3.Text, li .i64 a0.Value.N, ls a0.Value.Text, li .i64 a0.Client, li .i64 a0.Session, li .i64 (imin (imax r1.1 (-1000001)) 1000001), li .i64 (imin (imax r2.1 (-1000001)) 1000001), li .i64 (imin (imax r3.1 (-1000001)) 1000001), li .i64 (imin (imax r4.1 (-1000001)) 1000001)])), (1000002, some (.cells [.fn 64 [.ptr 1000003 0, .ptr 1000004 0]])), (1000003, some (.cells [ls a1])), (1000004, some (.cells [li .i64 r4.2.2]))] (by kernel_rfl) ?_
          refine SimI.run 1 [(11, .one (lb false))] [] (by kernel_rfl) ?_
          refine SimI.done (by kernel_rfl) ?_
          refine SimE.thenN ?_
          refine Sim.seq ?_
          refine Sim.condF (by kernel_rfl) ?_
          refine Sim.exit ?_
          refine SimE.thenX ?_
          refine SimE.loopX ?_
          refine SimE.blockX ?_
          refine SimE.thenN ?_
          refine Sim.seq ?_
          refine Sim.region0 ?_
          refine SimI.run 1 [(3, .one (li .i64 0))] [] (by kernel_rfl) ?_
          refine SimI.done (by kernel_rfl) ?_
          refine SimE.thenN ?_
          refine Sim.ret ?_
          exact SimE.fin (by kernel_rfl)

def F66s2_e (a0 : Command) (a1 : ByteArray) (a2 : Int) : (Int × Command × Int) → PV × List Ob := fun r => (.one (li .i64 r.1), [.cells [.ptr 1000001 2, .ptr 1000001 3], .cells (Command.cells r.2.1), .cells [.fn 64 [.ptr 1000003 0, .ptr 1000004 0]], .cells [ls a1], .cells [li .i64 r.2.2]])
def F66s2 (n : Nat) (a0 : Command) (a1 : ByteArray) (a2 : Int) : Option (Int × Command × Int) :=
  (F64s0 n a1 a2).bind fun (r1 : (Int × Int × Int)) =>
  if r1.2.1 != 0 then
    some (r1.2.1, a0, r1.2.2)
  else
    (F64s0 n a1 r1.2.2).bind fun (r2 : (Int × Int × Int)) =>
    if r2.2.1 != 0 then
      some (r2.2.1, (Command.mk a0.Kind a0.ID (imin (imax r1.1 (-1000001)) 1000001) a0.To a0.At a0.F a0.Value a0.Client a0.Session a0.Rect), r2.2.2)
    else
      some (0, (Command.mk a0.Kind a0.ID (imin (imax r1.1 (-1000001)) 1000001) (imin (imax r2.1 (-1000001)) 1000001) a0.At a0.F a0.Value a0.Client a0.Session a0.Rect), r2.2.2)
theorem F66s2_ok (n : Nat) (a0 : Command) (a1 : ByteArray) (a2 : Int) : ∀ r, F66s2 n a0 a1 a2 = some r → D 66 [.one (.csl 1000000 1 0 2), .one (.ptr 1000002 0)] [.cells [.ptr 1000001 2, .ptr 1000001 3], .cells (Command.cells a0), .cells [.fn 64 [.ptr 1000003 0, .ptr 1000004 0]], .cells [ls a1], .cells [li .i64 a2]] = some ((F66s2_e a0 a1 a2) r) := by
  refine fn_to (D := D) (n := n + 8) (nt := 28) (rs := pc66_r) (c := pc66_c32) (L := [(0, .one (.csl 1000000 1 0 2)), (1, .one (.ptr 1000002 0))]) (M := [(1000000, some (.cells [.ptr 1000001 2, .ptr 1000001 3])), (1000001, some (.cells (Command.cells a0))), (1000002, some (.cells [.fn 64 [.ptr 1000003 0, .ptr 1000004 0]])), (1000003, some (.cells [ls a1])), (1000004, some (.cells [li .i64 a2]))]) (k := 5) rfl rfl rfl rfl rfl rfl rfl ?_
  unfold F66s2
  refine Sim.seq ?_
  refine Sim.region0 ?_
  refine SimI.run 1 [(3, .one (li .i64 0))] [] (by kernel_rfl) ?_
  refine SimI.done (by kernel_rfl) ?_
  refine SimE.thenN ?_
  refine Sim.seq ?_
  refine Sim.seq ?_
  refine Sim.region0 ?_
  refine SimI.run 3 [(10, .one (li .i64 0)), (9, .one (li .i64 2)), (8, .one (.csl 1000000 1 0 2))] [] (by kernel_rfl) ?_
  refine SimI.done (by kernel_rfl) ?_
  refine SimE.thenN ?_
  refine Sim.block ?_
  refine Sim.loop ?_
  refine SimL.succ ?_
  refine Sim.seq ?_
  refine Sim.region [(1, .one (.ptr 1000002 0)), (8, .one (.csl 1000000 1 0 2)), (9, .one (li .i64 2)), (10, .one (li .i64 0))] [(1000000, some (.cells [.ptr 1000001 2, .ptr 1000001 3])), (1000001, some (.cells (Command.cells a0))), (1000002, some (.cells [.fn 64 [.ptr 1000003 0, .ptr 1000004 0]])), (1000003, some (.cells [ls a1])), (1000004, some (.cells [li .i64 a2]))] (by kernel_rfl) ?_
  refine SimI.run 1 [(11, .one (lb true))] [] (by kernel_rfl) ?_
  refine SimI.done (by kernel_rfl) ?_
  refine SimE.thenN ?_
  refine Sim.seq ?_
  refine Sim.condT (by kernel_rfl) ?_
  refine Sim.skip ?_
  refine SimE.thenN ?_
  refine Sim.seq ?_
  refine Sim.block ?_
  refine Sim.seq ?_
  refine Sim.region0 ?_
  refine SimI.run 3 [(5, .one (.ptr 1000001 2)), (13, .one (.ptr 1000001 2)), (12, .one (.ptr 1000000 0))] [] (by kernel_rfl) ?_
  refine SimI.done (by kernel_rfl) ?_
  refine SimE.thenN ?_
  refine Sim.seq ?_
  refine Sim.region0 ?_
  refine SimI.run 1 [(15, .one (.fn 64 [.ptr 1000003 0, .ptr 1000004 0]))] [] (by kernel_rfl) ?_
  refine SimI.bind (og := F64s0 n a1 a2) { dst := some 16, op := POp.gcallv false false [300000, 300001, 300002, 300003, 300004, 300005, 300006, 300007, 1000003, 1000004] [] (Operand.tmp 15) [], guard := none, hints := [] } (fun r1 => [(16, .tup [.one (li .i64 r1.1), .one (li .i64 r1.2.1)])]) (fun r1 => [(1000003, some (.cells [ls a1])), (1000004, some (.cells [li .i64 r1.2.2]))]) (by kernel_rfl) (fun r1 hr => pOp_eff (by kernel_rfl) (by kernel_rfl) (eff_gcallv (ks := [1000003, 1000004]) (rks := []) (new := []) (ARGS := [.one (.ptr 1000003 0), .one (.ptr 1000004 0)]) (args1 := [.one (.ptr 1000003 0), .one (.ptr 1000004 0)]) (args2 := [.one (.ptr 1000000 0), .one (.ptr 1000001 0)]) (os := [.cells [ls a1], .cells [li .i64 a2]]) (os' := [.cells [ls a1], .cells [li .i64 r1.2.2]]) (os1 := [.cells [ls a1], .cells [li .i64 r1.2.2]]) (res := .tup [.one (li .i64 r1.1), .one (li .i64 r1.2.1)]) (res1 := .tup [.one (li .i64 r1.1), .one (li .i64 r1.2.1)]) (r := .tup [.one (li .i64 r1.1), .one (li .i64 r1.2.1)]) (N := [(1000003, some (.cells [ls a1])), (1000004, some (.cells [li .i64 r1.2.2]))]) (caps := [.ptr 1000003 0, .ptr 1000004 0]) (by kernel_rfl) (by kernel_rfl) (readA_ow (readA_keep (by kernel_rfl) (readA_keep (by kernel_rfl) (readA_nil)))) (by kernel_rfl) (by kernel_rfl) (by kernel_rfl) (by kernel_rfl) (F64s0_ok n a1 a2 r1 hr) (by kernel_rfl) (by kernel_rfl) (by kernel_rfl) rfl (by kernel_rfl) (by kernel_rfl) (by kernel_rfl))) (fun r1 => ?_)
  refine SimI.run 5 [(7, .one (li .i64 r1.2.1)), (6, .one (li .i64 r1.1)), (18, .one (li .i64 r1.2.1)), (17, .one (li .i64 r1.1)), (14, .tup [.one (li .i64 r1.1), .one (li .i64 r1.2.1)])] [] (by kernel_rfl) ?_
  refine SimI.done (by kernel_rfl) ?_
  refine SimE.thenN ?_
  refine Sim.seq ?_
  refine Sim.seq ?_
  refine Sim.region0 ?_
  refine SimI.run 2 [(20, .one (lb (r1.2.1 != 0))), (19, .one (li .i64 r1.2.1))] [] (by kernel_rfl) ?_
  refine SimI.done (by kernel_rfl) ?_
  refine SimE.thenN ?_
  refine Sim.cond (r1.2.1 != 0) (by kernel_rfl) ?_ ?_
  · refine Sim.seq ?_
    refine Sim.region0 ?_
    refine SimI.run 2 [(3, .one (li .i64 r1.2.1)), (21, .one (li .i64 r1.2.1))] [] (by kernel_rfl) ?_
    refine SimI.done (by kernel_rfl) ?_
    refine SimE.thenN ?_
    refine Sim.ret ?_
    refine SimE.thenR ?_
    refine SimE.blockR ?_
    refine SimE.thenR ?_
    refine SimE.loopR ?_
    refine SimE.blockR ?_
    refine SimE.thenR ?_
    exact SimE.fin (by kernel_rfl)
  · refine Sim.skip ?_
    refine SimE.thenN ?_
    refine Sim.region0 ?_
    refine SimI.run 6 [(26, .one (.ptr 1000001 2)), (25, .one (li .i64 (imin (imax r1.1 (-1000001)) 1000001))), (24, .one (li .i64 (imax r1.1 (-1000001)))), (23, .one (li .i64 r1.1)), (22, .one (.ptr 1000001 2))] [(1000001, some (.cells [li .i64 a0.Kind, li .i64 a0.ID, li .i64 (imin (imax r1.1 (-1000001)) 1000001), li .i64 a0.To, li .i64 a0.At.X, li .i64 a0.At.Y, li .i64 a0.F.a0.N, ls a0.F.a0.Text, li .i64 a0.F.a1.N, ls a0.F.a1.Text, li .i64 a0.F.a2.N, ls a0.F.a2.Text, li .i64 a0.F.a3.N, ls a0.F.a3.Text, li .i64 a0.Value.N, ls a0.Value.Text, li .i64 a0.Client, li .i64 a0.Session, li .i64 a0.Rect.X0, li .i64 a0.Rect.Y0, li .i64 a0.Rect.X1, li .i64 a0.Rect.Y1]))] (by kernel_rfl) ?_
    refine SimI.done (by kernel_rfl) ?_
    refine SimE.blockN ?_
    refine SimE.thenN ?_
    refine Sim.region0 ?_
    refine SimI.run 2 [(10, .one (li .i64 1)), (27, .one (li .i64 1))] [] (by kernel_rfl) ?_
    refine SimI.done (by kernel_rfl) ?_
    refine SimE.loopN ?_
    refine SimL.succ ?_
    refine Sim.seq ?_
    refine Sim.region [(1, .one (.ptr 1000002 0)), (8, .one (.csl 1000000 1 0 2)), (9, .one (li .i64 2)), (10, .one (li .i64 1))] [(1000000, some (.cells [.ptr 1000001 2, .ptr 1000001 3])), (1000001, some (.cells [li .i64 a0.Kind, li .i64 a0.ID, li .i64 (imin (imax r1.1 (-1000001)) 1000001), li .i64 a0.To, li .i64 a0.At.X, li .i64 a0.At.Y, li .i64 a0.F.a0.N, ls a0.F.a0.Text, li .i64 a0.F.a1.N, ls a0.F.a1.Text, li .i64 a0.F.a2.N, ls a0.F.a2.Text, li .i64 a0.F.a3.N, ls a0.F.a3.Text, li .i64 a0.Value.N, ls a0.Value.Text, li .i64 a0.Client, li .i64 a0.Session, li .i64 a0.Rect.X0, li .i64 a0.Rect.Y0, li .i64 a0.Rect.X1, li .i64 a0.Rect.Y1])), (1000002, some (.cells [.fn 64 [.ptr 1000003 0, .ptr 1000004 0]])), (1000003, some (.cells [ls a1])), (1000004, some (.cells [li .i64 r1.2.2]))] (by kernel_rfl) ?_
    refine SimI.run 1 [(11, .one (lb true))] [] (by kernel_rfl) ?_
    refine SimI.done (by kernel_rfl) ?_
    refine SimE.thenN ?_
    refine Sim.seq ?_
    refine Sim.condT (by kernel_rfl) ?_
    refine Sim.skip ?_
    refine SimE.thenN ?_
    refine Sim.seq ?_
    refine Sim.block ?_
    refine Sim.seq ?_
    refine Sim.region0 ?_
    refine SimI.run 3 [(5, .one (.ptr 1000001 3)), (13, .one (.ptr 1000001 3)), (12, .one (.ptr 1000000 1))] [] (by kernel_rfl) ?_
    refine SimI.done (by kernel_rfl) ?_
    refine SimE.thenN ?_
    refine Sim.seq ?_
    refine Sim.region0 ?_
    refine SimI.run 1 [(15, .one (.fn 64 [.ptr 1000003 0, .ptr 1000004 0]))] [] (by kernel_rfl) ?_
    refine SimI.bind (og := F64s0 n a1 r1.2.2) { dst := some 16, op := POp.gcallv false false [300000, 300001, 300002, 300003, 300004, 300005, 300006, 300007, 1000003, 1000004] [] (Operand.tmp 15) [], guard := none, hints := [] } (fun r2 => [(16, .tup [.one (li .i64 r2.1), .one (li .i64 r2.2.1)])]) (fun r2 => [(1000003, some (.cells [ls a1])), (1000004, some (.cells [li .i64 r2.2.2]))]) (by kernel_rfl) (fun r2 hr => pOp_eff (by kernel_rfl) (by kernel_rfl) (eff_gcallv (ks := [1000003, 1000004]) (rks := []) (new := []) (ARGS := [.one (.ptr 1000003 0), .one (.ptr 1000004 0)]) (args1 := [.one (.ptr 1000003 0), .one (.ptr 1000004 0)]) (args2 := [.one (.ptr 1000000 0), .one (.ptr 1000001 0)]) (os := [.cells [ls a1], .cells [li .i64 r1.2.2]]) (os' := [.cells [ls a1], .cells [li .i64 r2.2.2]]) (os1 := [.cells [ls a1], .cells [li .i64 r2.2.2]]) (res := .tup [.one (li .i64 r2.1), .one (li .i64 r2.2.1)]) (res1 := .tup [.one (li .i64 r2.1), .one (li .i64 r2.2.1)]) (r := .tup [.one (li .i64 r2.1), .one (li .i64 r2.2.1)]) (N := [(1000003, some (.cells [ls a1])), (1000004, some (.cells [li .i64 r2.2.2]))]) (caps := [.ptr 1000003 0, .ptr 1000004 0]) (by kernel_rfl) (by kernel_rfl) (readA_ow (readA_keep (by kernel_rfl) (readA_keep (by kernel_rfl) (readA_nil)))) (by kernel_rfl) (by kernel_rfl) (by kernel_rfl) (by kernel_rfl) (F64s0_ok n a1 r1.2.2 r2 hr) (by kernel_rfl) (by kernel_rfl) (by kernel_rfl) rfl (by kernel_rfl) (by kernel_rfl) (by kernel_rfl))) (fun r2 => ?_)
    refine SimI.run 5 [(7, .one (li .i64 r2.2.1)), (6, .one (li .i64 r2.1)), (18, .one (li .i64 r2.2.1)), (17, .one (li .i64 r2.1)), (14, .tup [.one (li .i64 r2.1), .one (li .i64 r2.2.1)])] [] (by kernel_rfl) ?_
    refine SimI.done (by kernel_rfl) ?_
    refine SimE.thenN ?_
    refine Sim.seq ?_
    refine Sim.seq ?_
    refine Sim.region0 ?_
    refine SimI.run 2 [(20, .one (lb (r2.2.1 != 0))), (19, .one (li .i64 r2.2.1))] [] (by kernel_rfl) ?_
    refine SimI.done (by kernel_rfl) ?_
    refine SimE.thenN ?_
    refine Sim.cond (r2.2.1 != 0) (by kernel_rfl) ?_ ?_
    · refine Sim.seq ?_
      refine Sim.region0 ?_
      refine SimI.run 2 [(3, .one (li .i64 r2.2.1)), (21, .one (li .i64 r2.2.1))] [] (by kernel_rfl) ?_
      refine SimI.done (by kernel_rfl) ?_
      refine SimE.thenN ?_
      refine Sim.ret ?_
      refine SimE.thenR ?_
      refine SimE.blockR ?_
      refine SimE.thenR ?_
      refine SimE.loopR ?_
      refine SimE.blockR ?_
      refine SimE.thenR ?_
      exact SimE.fin (by kernel_rfl)
    · refine Sim.skip ?_
      refine SimE.thenN ?_
      refine Sim.region0 ?_
      refine SimI.run 6 [(26, .one (.ptr 1000001 3)), (25, .one (li .i64 (imin (imax r2.1 (-1000001)) 1000001))), (24, .one (li .i64 (imax r2.1 (-1000001)))), (23, .one (li .i64 r2.1)), (22, .one (.ptr 1000001 3))] [(1000001, some (.cells [li .i64 a0.Kind, li .i64 a0.ID, li .i64 (imin (imax r1.1 (-1000001)) 1000001), li .i64 (imin (imax r2.1 (-1000001)) 1000001), li .i64 a0.At.X, li .i64 a0.At.Y, li .i64 a0.F.a0.N, ls a0.F.a0.Text, li .i64 a0.F.a1.N, ls a0.F.a1.Text, li .i64 a0.F.a2.N, ls a0.F.a2.Text, li .i64 a0.F.a3.N, ls a0.F.a3.Text, li .i64 a0.Value.N, ls a0.Value.Text, li .i64 a0.Client, li .i64 a0.Session, li .i64 a0.Rect.X0, li .i64 a0.Rect.Y0, li .i64 a0.Rect.X1, li .i64 a0.Rect.Y1]))] (by kernel_rfl) ?_
      refine SimI.done (by kernel_rfl) ?_
      refine SimE.blockN ?_
      refine SimE.thenN ?_
      refine Sim.region0 ?_
      refine SimI.run 2 [(10, .one (li .i64 2)), (27, .one (li .i64 2))] [] (by kernel_rfl) ?_
      refine SimI.done (by kernel_rfl) ?_
      refine SimE.loopN ?_
      refine SimL.succ ?_
      refine Sim.seq ?_
      refine Sim.region [(1, .one (.ptr 1000002 0)), (8, .one (.csl 1000000 1 0 2)), (9, .one (li .i64 2)), (10, .one (li .i64 2))] [(1000000, some (.cells [.ptr 1000001 2, .ptr 1000001 3])), (1000001, some (.cells [li .i64 a0.Kind, li .i64 a0.ID, li .i64 (imin (imax r1.1 (-1000001)) 1000001), li .i64 (imin (imax r2.1 (-1000001)) 1000001), li .i64 a0.At.X, li .i64 a0.At.Y, li .i64 a0.F.a0.N, ls a0.F.a0.Text, li .i64 a0.F.a1.N, ls a0.F.a1.Text, li .i64 a0.F.a2.N, ls a0.F.a2.Text, li .i64 a0.F.a3.N, ls a0.F.a3.Text, li .i64 a0.Value.N, ls a0.Value.Text, li .i64 a0.Client, li .i64 a0.Session, li .i64 a0.Rect.X0, li .i64 a0.Rect.Y0, li .i64 a0.Rect.X1, li .i64 a0.Rect.Y1])), (1000002, some (.cells [.fn 64 [.ptr 1000003 0, .ptr 1000004 0]])), (1000003, some (.cells [ls a1])), (1000004, some (.cells [li .i64 r2.2.2]))] (by kernel_rfl) ?_
      refine SimI.run 1 [(11, .one (lb false))] [] (by kernel_rfl) ?_
      refine SimI.done (by kernel_rfl) ?_
      refine SimE.thenN ?_
      refine Sim.seq ?_
      refine Sim.condF (by kernel_rfl) ?_
      refine Sim.exit ?_
      refine SimE.thenX ?_
      refine SimE.loopX ?_
      refine SimE.blockX ?_
      refine SimE.thenN ?_
      refine Sim.seq ?_
      refine Sim.region0 ?_
      refine SimI.run 1 [(3, .one (li .i64 0))] [] (by kernel_rfl) ?_
      refine SimI.done (by kernel_rfl) ?_
      refine SimE.thenN ?_
      refine Sim.ret ?_
      exact SimE.fin (by kernel_rfl)

def F66s3_e (a0 : Command) (a1 : ByteArray) (a2 : Int) : (Int × Command × Int) → PV × List Ob := fun r => (.one (li .i64 r.1), [.cells [.ptr 1000001 1], .cells (Command.cells r.2.1), .cells [.fn 64 [.ptr 1000003 0, .ptr 1000004 0]], .cells [ls a1], .cells [li .i64 r.2.2]])
def F66s3 (n : Nat) (a0 : Command) (a1 : ByteArray) (a2 : Int) : Option (Int × Command × Int) :=
  (F64s0 n a1 a2).bind fun (r1 : (Int × Int × Int)) =>
  if r1.2.1 != 0 then
    some (r1.2.1, a0, r1.2.2)
  else
    some (0, (Command.mk a0.Kind (imin (imax r1.1 (-1000001)) 1000001) a0.Which a0.To a0.At a0.F a0.Value a0.Client a0.Session a0.Rect), r1.2.2)
theorem F66s3_ok (n : Nat) (a0 : Command) (a1 : ByteArray) (a2 : Int) : ∀ r, F66s3 n a0 a1 a2 = some r → D 66 [.one (.csl 1000000 1 0 1), .one (.ptr 1000002 0)] [.cells [.ptr 1000001 1], .cells (Command.cells a0), .cells [.fn 64 [.ptr 1000003 0, .ptr 1000004 0]], .cells [ls a1], .cells [li .i64 a2]] = some ((F66s3_e a0 a1 a2) r) := by
  refine fn_to (D := D) (n := n + 8) (nt := 28) (rs := pc66_r) (c := pc66_c32) (L := [(0, .one (.csl 1000000 1 0 1)), (1, .one (.ptr 1000002 0))]) (M := [(1000000, some (.cells [.ptr 1000001 1])), (1000001, some (.cells (Command.cells a0))), (1000002, some (.cells [.fn 64 [.ptr 1000003 0, .ptr 1000004 0]])), (1000003, some (.cells [ls a1])), (1000004, some (.cells [li .i64 a2]))]) (k := 5) rfl rfl rfl rfl rfl rfl rfl ?_
  unfold F66s3
  refine Sim.seq ?_
  refine Sim.region0 ?_
  refine SimI.run 1 [(3, .one (li .i64 0))] [] (by kernel_rfl) ?_
  refine SimI.done (by kernel_rfl) ?_
  refine SimE.thenN ?_
  refine Sim.seq ?_
  refine Sim.seq ?_
  refine Sim.region0 ?_
  refine SimI.run 3 [(10, .one (li .i64 0)), (9, .one (li .i64 1)), (8, .one (.csl 1000000 1 0 1))] [] (by kernel_rfl) ?_
  refine SimI.done (by kernel_rfl) ?_
  refine SimE.thenN ?_
  refine Sim.block ?_
  refine Sim.loop ?_
  refine SimL.succ ?_
  refine Sim.seq ?_
  refine Sim.region [(1, .one (.ptr 1000002 0)), (8, .one (.csl 1000000 1 0 1)), (9, .one (li .i64 1)), (10, .one (li .i64 0))] [(1000000, some (.cells [.ptr 1000001 1])), (1000001, some (.cells (Command.cells a0))), (1000002, some (.cells [.fn 64 [.ptr 1000003 0, .ptr 1000004 0]])), (1000003, some (.cells [ls a1])), (1000004, some (.cells [li .i64 a2]))] (by kernel_rfl) ?_
  refine SimI.run 1 [(11, .one (lb true))] [] (by kernel_rfl) ?_
  refine SimI.done (by kernel_rfl) ?_
  refine SimE.thenN ?_
  refine Sim.seq ?_
  refine Sim.condT (by kernel_rfl) ?_
  refine Sim.skip ?_
  refine SimE.thenN ?_
  refine Sim.seq ?_
  refine Sim.block ?_
  refine Sim.seq ?_
  refine Sim.region0 ?_
  refine SimI.run 3 [(5, .one (.ptr 1000001 1)), (13, .one (.ptr 1000001 1)), (12, .one (.ptr 1000000 0))] [] (by kernel_rfl) ?_
  refine SimI.done (by kernel_rfl) ?_
  refine SimE.thenN ?_
  refine Sim.seq ?_
  refine Sim.region0 ?_
  refine SimI.run 1 [(15, .one (.fn 64 [.ptr 1000003 0, .ptr 1000004 0]))] [] (by kernel_rfl) ?_
  refine SimI.bind (og := F64s0 n a1 a2) { dst := some 16, op := POp.gcallv false false [300000, 300001, 300002, 300003, 300004, 300005, 300006, 300007, 1000003, 1000004] [] (Operand.tmp 15) [], guard := none, hints := [] } (fun r1 => [(16, .tup [.one (li .i64 r1.1), .one (li .i64 r1.2.1)])]) (fun r1 => [(1000003, some (.cells [ls a1])), (1000004, some (.cells [li .i64 r1.2.2]))]) (by kernel_rfl) (fun r1 hr => pOp_eff (by kernel_rfl) (by kernel_rfl) (eff_gcallv (ks := [1000003, 1000004]) (rks := []) (new := []) (ARGS := [.one (.ptr 1000003 0), .one (.ptr 1000004 0)]) (args1 := [.one (.ptr 1000003 0), .one (.ptr 1000004 0)]) (args2 := [.one (.ptr 1000000 0), .one (.ptr 1000001 0)]) (os := [.cells [ls a1], .cells [li .i64 a2]]) (os' := [.cells [ls a1], .cells [li .i64 r1.2.2]]) (os1 := [.cells [ls a1], .cells [li .i64 r1.2.2]]) (res := .tup [.one (li .i64 r1.1), .one (li .i64 r1.2.1)]) (res1 := .tup [.one (li .i64 r1.1), .one (li .i64 r1.2.1)]) (r := .tup [.one (li .i64 r1.1), .one (li .i64 r1.2.1)]) (N := [(1000003, some (.cells [ls a1])), (1000004, some (.cells [li .i64 r1.2.2]))]) (caps := [.ptr 1000003 0, .ptr 1000004 0]) (by kernel_rfl) (by kernel_rfl) (readA_ow (readA_keep (by kernel_rfl) (readA_keep (by kernel_rfl) (readA_nil)))) (by kernel_rfl) (by kernel_rfl) (by kernel_rfl) (by kernel_rfl) (F64s0_ok n a1 a2 r1 hr) (by kernel_rfl) (by kernel_rfl) (by kernel_rfl) rfl (by kernel_rfl) (by kernel_rfl) (by kernel_rfl))) (fun r1 => ?_)
  refine SimI.run 5 [(7, .one (li .i64 r1.2.1)), (6, .one (li .i64 r1.1)), (18, .one (li .i64 r1.2.1)), (17, .one (li .i64 r1.1)), (14, .tup [.one (li .i64 r1.1), .one (li .i64 r1.2.1)])] [] (by kernel_rfl) ?_
  refine SimI.done (by kernel_rfl) ?_
  refine SimE.thenN ?_
  refine Sim.seq ?_
  refine Sim.seq ?_
  refine Sim.region0 ?_
  refine SimI.run 2 [(20, .one (lb (r1.2.1 != 0))), (19, .one (li .i64 r1.2.1))] [] (by kernel_rfl) ?_
  refine SimI.done (by kernel_rfl) ?_
  refine SimE.thenN ?_
  refine Sim.cond (r1.2.1 != 0) (by kernel_rfl) ?_ ?_
  · refine Sim.seq ?_
    refine Sim.region0 ?_
    refine SimI.run 2 [(3, .one (li .i64 r1.2.1)), (21, .one (li .i64 r1.2.1))] [] (by kernel_rfl) ?_
    refine SimI.done (by kernel_rfl) ?_
    refine SimE.thenN ?_
    refine Sim.ret ?_
    refine SimE.thenR ?_
    refine SimE.blockR ?_
    refine SimE.thenR ?_
    refine SimE.loopR ?_
    refine SimE.blockR ?_
    refine SimE.thenR ?_
    exact SimE.fin (by kernel_rfl)
  · refine Sim.skip ?_
    refine SimE.thenN ?_
    refine Sim.region0 ?_
    refine SimI.run 6 [(26, .one (.ptr 1000001 1)), (25, .one (li .i64 (imin (imax r1.1 (-1000001)) 1000001))), (24, .one (li .i64 (imax r1.1 (-1000001)))), (23, .one (li .i64 r1.1)), (22, .one (.ptr 1000001 1))] [(1000001, some (.cells [li .i64 a0.Kind, li .i64 (imin (imax r1.1 (-1000001)) 1000001), li .i64 a0.Which, li .i64 a0.To, li .i64 a0.At.X, li .i64 a0.At.Y, li .i64 a0.F.a0.N, ls a0.F.a0.Text, li .i64 a0.F.a1.N, ls a0.F.a1.Text, li .i64 a0.F.a2.N, ls a0.F.a2.Text, li .i64 a0.F.a3.N, ls a0.F.a3.Text, li .i64 a0.Value.N, ls a0.Value.Text, li .i64 a0.Client, li .i64 a0.Session, li .i64 a0.Rect.X0, li .i64 a0.Rect.Y0, li .i64 a0.Rect.X1, li .i64 a0.Rect.Y1]))] (by kernel_rfl) ?_
    refine SimI.done (by kernel_rfl) ?_
    refine SimE.blockN ?_
    refine SimE.thenN ?_
    refine Sim.region0 ?_
    refine SimI.run 2 [(10, .one (li .i64 1)), (27, .one (li .i64 1))] [] (by kernel_rfl) ?_
    refine SimI.done (by kernel_rfl) ?_
    refine SimE.loopN ?_
    refine SimL.succ ?_
    refine Sim.seq ?_
    refine Sim.region [(1, .one (.ptr 1000002 0)), (8, .one (.csl 1000000 1 0 1)), (9, .one (li .i64 1)), (10, .one (li .i64 1))] [(1000000, some (.cells [.ptr 1000001 1])), (1000001, some (.cells [li .i64 a0.Kind, li .i64 (imin (imax r1.1 (-1000001)) 1000001), li .i64 a0.Which, li .i64 a0.To, li .i64 a0.At.X, li .i64 a0.At.Y, li .i64 a0.F.a0.N, ls a0.F.a0.Text, li .i64 a0.F.a1.N, ls a0.F.a1.Text, li .i64 a0.F.a2.N, ls a0.F.a2.Text, li .i64 a0.F.a3.N, ls a0.F.a3.Text, li .i64 a0.Value.N, ls a0.Value.Text, li .i64 a0.Client, li .i64 a0.Session, li .i64 a0.Rect.X0, li .i64 a0.Rect.Y0, li .i64 a0.Rect.X1, li .i64 a0.Rect.Y1])), (1000002, some (.cells [.fn 64 [.ptr 1000003 0, .ptr 1000004 0]])), (1000003, some (.cells [ls a1])), (1000004, some (.cells [li .i64 r1.2.2]))] (by kernel_rfl) ?_
    refine SimI.run 1 [(11, .one (lb false))] [] (by kernel_rfl) ?_
    refine SimI.done (by kernel_rfl) ?_
    refine SimE.thenN ?_
    refine Sim.seq ?_
    refine Sim.condF (by kernel_rfl) ?_
    refine Sim.exit ?_
    refine SimE.thenX ?_
    refine SimE.loopX ?_
    refine SimE.blockX ?_
    refine SimE.thenN ?_
    refine Sim.seq ?_
    refine Sim.region0 ?_
    refine SimI.run 1 [(3, .one (li .i64 0))] [] (by kernel_rfl) ?_
    refine SimI.done (by kernel_rfl) ?_
    refine SimE.thenN ?_
    refine Sim.ret ?_
    exact SimE.fin (by kernel_rfl)

def F66s4_e (a0 : Command) (a1 : ByteArray) (a2 : Int) : (Int × Command × Int) → PV × List Ob := fun r => (.one (li .i64 r.1), [.cells [.ptr 1000001 1, .ptr 1000001 2], .cells (Command.cells r.2.1), .cells [.fn 64 [.ptr 1000003 0, .ptr 1000004 0]], .cells [ls a1], .cells [li .i64 r.2.2]])
def F66s4 (n : Nat) (a0 : Command) (a1 : ByteArray) (a2 : Int) : Option (Int × Command × Int) :=
  (F64s0 n a1 a2).bind fun (r1 : (Int × Int × Int)) =>
  if r1.2.1 != 0 then
    some (r1.2.1, a0, r1.2.2)
  else
    (F64s0 n a1 r1.2.2).bind fun (r2 : (Int × Int × Int)) =>
    if r2.2.1 != 0 then
      some (r2.2.1, (Command.mk a0.Kind (imin (imax r1.1 (-1000001)) 1000001) a0.Which a0.To a0.At a0.F a0.Value a0.Client a0.Session a0.Rect), r2.2.2)
    else
      some (0, (Command.mk a0.Kind (imin (imax r1.1 (-1000001)) 1000001) (imin (imax r2.1 (-1000001)) 1000001) a0.To a0.At a0.F a0.Value a0.Client a0.Session a0.Rect), r2.2.2)
theorem F66s4_ok (n : Nat) (a0 : Command) (a1 : ByteArray) (a2 : Int) : ∀ r, F66s4 n a0 a1 a2 = some r → D 66 [.one (.csl 1000000 1 0 2), .one (.ptr 1000002 0)] [.cells [.ptr 1000001 1, .ptr 1000001 2], .cells (Command.cells a0), .cells [.fn 64 [.ptr 1000003 0, .ptr 1000004 0]], .cells [ls a1], .cells [li .i64 a2]] = some ((F66s4_e a0 a1 a2) r) := by
  refine fn_to (D := D) (n := n + 8) (nt := 28) (rs := pc66_r) (c := pc66_c32) (L := [(0, .one (.csl 1000000 1 0 2)), (1, .one (.ptr 1000002 0))]) (M := [(1000000, some (.cells [.ptr 1000001 1, .ptr 1000001 2])), (1000001, some (.cells (Command.cells a0))), (1000002, some (.cells [.fn 64 [.ptr 1000003 0, .ptr 1000004 0]])), (1000003, some (.cells [ls a1])), (1000004, some (.cells [li .i64 a2]))]) (k := 5) rfl rfl rfl rfl rfl rfl rfl ?_
  unfold F66s4
  refine Sim.seq ?_
  refine Sim.region0 ?_
  refine SimI.run 1 [(3, .one (li .i64 0))] [] (by kernel_rfl) ?_
  refine SimI.done (by kernel_rfl) ?_
  refine SimE.thenN ?_
  refine Sim.seq ?_
  refine Sim.seq ?_
  refine Sim.region0 ?_
  refine SimI.run 3 [(10, .one (li .i64 0)), (9, .one (li .i64 2)), (8, .one (.csl 1000000 1 0 2))] [] (by kernel_rfl) ?_
  refine SimI.done (by kernel_rfl) ?_
  refine SimE.thenN ?_
  refine Sim.block ?_
  refine Sim.loop ?_
  refine SimL.succ ?_
  refine Sim.seq ?_
  refine Sim.region [(1, .one (.ptr 1000002 0)), (8, .one (.csl 1000000 1 0 2)), (9, .one (li .i64 2)), (10, .one (li .i64 0))] [(1000000, some (.cells [.ptr 1000001 1, .ptr 1000001 2])), (1000001, some (.cells (Command.cells a0))), (1000002, some (.cells [.fn 64 [.ptr 1000003 0, .ptr 1000004 0]])), (1000003, some (.cells [ls a1])), (1000004, some (.cells [li .i64 a2]))] (by kernel_rfl) ?_
  refine SimI.run 1 [(11, .one (lb true))] [] (by kernel_rfl) ?_
  refine SimI.done (by kernel_rfl) ?_
  refine SimE.thenN ?_
  refine Sim.seq ?_
  refine Sim.condT (by kernel_rfl) ?_
  refine Sim.skip ?_
  refine SimE.thenN ?_
  refine Sim.seq ?_
  refine Sim.block ?_
  refine Sim.seq ?_
  refine Sim.region0 ?_
  refine SimI.run 3 [(5, .one (.ptr 1000001 1)), (13, .one (.ptr 1000001 1)), (12, .one (.ptr 1000000 0))] [] (by kernel_rfl) ?_
  refine SimI.done (by kernel_rfl) ?_
  refine SimE.thenN ?_
  refine Sim.seq ?_
  refine Sim.region0 ?_
  refine SimI.run 1 [(15, .one (.fn 64 [.ptr 1000003 0, .ptr 1000004 0]))] [] (by kernel_rfl) ?_
  refine SimI.bind (og := F64s0 n a1 a2) { dst := some 16, op := POp.gcallv false false [300000, 300001, 300002, 300003, 300004, 300005, 300006, 300007, 1000003, 1000004] [] (Operand.tmp 15) [], guard := none, hints := [] } (fun r1 => [(16, .tup [.one (li .i64 r1.1), .one (li .i64 r1.2.1)])]) (fun r1 => [(1000003, some (.cells [ls a1])), (1000004, some (.cells [li .i64 r1.2.2]))]) (by kernel_rfl) (fun r1 hr => pOp_eff (by kernel_rfl) (by kernel_rfl) (eff_gcallv (ks := [1000003, 1000004]) (rks := []) (new := []) (ARGS := [.one (.ptr 1000003 0), .one (.ptr 1000004 0)]) (args1 := [.one (.ptr 1000003 0), .one (.ptr 1000004 0)]) (args2 := [.one (.ptr 1000000 0), .one (.ptr 1000001 0)]) (os := [.cells [ls a1], .cells [li .i64 a2]]) (os' := [.cells [ls a1], .cells [li .i64 r1.2.2]]) (os1 := [.cells [ls a1], .cells [li .i64 r1.2.2]]) (res := .tup [.one (li .i64 r1.1), .one (li .i64 r1.2.1)]) (res1 := .tup [.one (li .i64 r1.1), .one (li .i64 r1.2.1)]) (r := .tup [.one (li .i64 r1.1), .one (li .i64 r1.2.1)]) (N := [(1000003, some (.cells [ls a1])), (1000004, some (.cells [li .i64 r1.2.2]))]) (caps := [.ptr 1000003 0, .ptr 1000004 0]) (by kernel_rfl) (by kernel_rfl) (readA_ow (readA_keep (by kernel_rfl) (readA_keep (by kernel_rfl) (readA_nil)))) (by kernel_rfl) (by kernel_rfl) (by kernel_rfl) (by kernel_rfl) (F64s0_ok n a1 a2 r1 hr) (by kernel_rfl) (by kernel_rfl) (by kernel_rfl) rfl (by kernel_rfl) (by kernel_rfl) (by kernel_rfl))) (fun r1 => ?_)
  refine SimI.run 5 [(7, .one (li .i64 r1.2.1)), (6, .one (li .i64 r1.1)), (18, .one (li .i64 r1.2.1)), (17, .one (li .i64 r1.1)), (14, .tup [.one (li .i64 r1.1), .one (li .i64 r1.2.1)])] [] (by kernel_rfl) ?_
  refine SimI.done (by kernel_rfl) ?_
  refine SimE.thenN ?_
  refine Sim.seq ?_
  refine Sim.seq ?_
  refine Sim.region0 ?_
  refine SimI.run 2 [(20, .one (lb (r1.2.1 != 0))), (19, .one (li .i64 r1.2.1))] [] (by kernel_rfl) ?_
  refine SimI.done (by kernel_rfl) ?_
  refine SimE.thenN ?_
  refine Sim.cond (r1.2.1 != 0) (by kernel_rfl) ?_ ?_
  · refine Sim.seq ?_
    refine Sim.region0 ?_
    refine SimI.run 2 [(3, .one (li .i64 r1.2.1)), (21, .one (li .i64 r1.2.1))] [] (by kernel_rfl) ?_
    refine SimI.done (by kernel_rfl) ?_
    refine SimE.thenN ?_
    refine Sim.ret ?_
    refine SimE.thenR ?_
    refine SimE.blockR ?_
    refine SimE.thenR ?_
    refine SimE.loopR ?_
    refine SimE.blockR ?_
    refine SimE.thenR ?_
    exact SimE.fin (by kernel_rfl)
  · refine Sim.skip ?_
    refine SimE.thenN ?_
    refine Sim.region0 ?_
    refine SimI.run 6 [(26, .one (.ptr 1000001 1)), (25, .one (li .i64 (imin (imax r1.1 (-1000001)) 1000001))), (24, .one (li .i64 (imax r1.1 (-1000001)))), (23, .one (li .i64 r1.1)), (22, .one (.ptr 1000001 1))] [(1000001, some (.cells [li .i64 a0.Kind, li .i64 (imin (imax r1.1 (-1000001)) 1000001), li .i64 a0.Which, li .i64 a0.To, li .i64 a0.At.X, li .i64 a0.At.Y, li .i64 a0.F.a0.N, ls a0.F.a0.Text, li .i64 a0.F.a1.N, ls a0.F.a1.Text, li .i64 a0.F.a2.N, ls a0.F.a2.Text, li .i64 a0.F.a3.N, ls a0.F.a3.Text, li .i64 a0.Value.N, ls a0.Value.Text, li .i64 a0.Client, li .i64 a0.Session, li .i64 a0.Rect.X0, li .i64 a0.Rect.Y0, li .i64 a0.Rect.X1, li .i64 a0.Rect.Y1]))] (by kernel_rfl) ?_
    refine SimI.done (by kernel_rfl) ?_
    refine SimE.blockN ?_
    refine SimE.thenN ?_
    refine Sim.region0 ?_
    refine SimI.run 2 [(10, .one (li .i64 1)), (27, .one (li .i64 1))] [] (by kernel_rfl) ?_
    refine SimI.done (by kernel_rfl) ?_
    refine SimE.loopN ?_
    refine SimL.succ ?_
    refine Sim.seq ?_
    refine Sim.region [(1, .one (.ptr 1000002 0)), (8, .one (.csl 1000000 1 0 2)), (9, .one (li .i64 2)), (10, .one (li .i64 1))] [(1000000, some (.cells [.ptr 1000001 1, .ptr 1000001 2])), (1000001, some (.cells [li .i64 a0.Kind, li .i64 (imin (imax r1.1 (-1000001)) 1000001), li .i64 a0.Which, li .i64 a0.To, li .i64 a0.At.X, li .i64 a0.At.Y, li .i64 a0.F.a0.N, ls a0.F.a0.Text, li .i64 a0.F.a1.N, ls a0.F.a1.Text, li .i64 a0.F.a2.N, ls a0.F.a2.Text, li .i64 a0.F.a3.N, ls a0.F.a3.Text, li .i64 a0.Value.N, ls a0.Value.Text, li .i64 a0.Client, li .i64 a0.Session, li .i64 a0.Rect.X0, li .i64 a0.Rect.Y0, li .i64 a0.Rect.X1, li .i64 a0.Rect.Y1])), (1000002, some (.cells [.fn 64 [.ptr 1000003 0, .ptr 1000004 0]])), (1000003, some (.cells [ls a1])), (1000004, some (.cells [li .i64 r1.2.2]))] (by kernel_rfl) ?_
    refine SimI.run 1 [(11, .one (lb true))] [] (by kernel_rfl) ?_
    refine SimI.done (by kernel_rfl) ?_
    refine SimE.thenN ?_
    refine Sim.seq ?_
    refine Sim.condT (by kernel_rfl) ?_
    refine Sim.skip ?_
    refine SimE.thenN ?_
    refine Sim.seq ?_
    refine Sim.block ?_
    refine Sim.seq ?_
    refine Sim.region0 ?_
    refine SimI.run 3 [(5, .one (.ptr 1000001 2)), (13, .one (.ptr 1000001 2)), (12, .one (.ptr 1000000 1))] [] (by kernel_rfl) ?_
    refine SimI.done (by kernel_rfl) ?_
    refine SimE.thenN ?_
    refine Sim.seq ?_
    refine Sim.region0 ?_
    refine SimI.run 1 [(15, .one (.fn 64 [.ptr 1000003 0, .ptr 1000004 0]))] [] (by kernel_rfl) ?_
    refine SimI.bind (og := F64s0 n a1 r1.2.2) { dst := some 16, op := POp.gcallv false false [300000, 300001, 300002, 300003, 300004, 300005, 300006, 300007, 1000003, 1000004] [] (Operand.tmp 15) [], guard := none, hints := [] } (fun r2 => [(16, .tup [.one (li .i64 r2.1), .one (li .i64 r2.2.1)])]) (fun r2 => [(1000003, some (.cells [ls a1])), (1000004, some (.cells [li .i64 r2.2.2]))]) (by kernel_rfl) (fun r2 hr => pOp_eff (by kernel_rfl) (by kernel_rfl) (eff_gcallv (ks := [1000003, 1000004]) (rks := []) (new := []) (ARGS := [.one (.ptr 1000003 0), .one (.ptr 1000004 0)]) (args1 := [.one (.ptr 1000003 0), .one (.ptr 1000004 0)]) (args2 := [.one (.ptr 1000000 0), .one (.ptr 1000001 0)]) (os := [.cells [ls a1], .cells [li .i64 r1.2.2]]) (os' := [.cells [ls a1], .cells [li .i64 r2.2.2]]) (os1 := [.cells [ls a1], .cells [li .i64 r2.2.2]]) (res := .tup [.one (li .i64 r2.1), .one (li .i64 r2.2.1)]) (res1 := .tup [.one (li .i64 r2.1), .one (li .i64 r2.2.1)]) (r := .tup [.one (li .i64 r2.1), .one (li .i64 r2.2.1)]) (N := [(1000003, some (.cells [ls a1])), (1000004, some (.cells [li .i64 r2.2.2]))]) (caps := [.ptr 1000003 0, .ptr 1000004 0]) (by kernel_rfl) (by kernel_rfl) (readA_ow (readA_keep (by kernel_rfl) (readA_keep (by kernel_rfl) (readA_nil)))) (by kernel_rfl) (by kernel_rfl) (by kernel_rfl) (by kernel_rfl) (F64s0_ok n a1 r1.2.2 r2 hr) (by kernel_rfl) (by kernel_rfl) (by kernel_rfl) rfl (by kernel_rfl) (by kernel_rfl) (by kernel_rfl))) (fun r2 => ?_)
    refine SimI.run 5 [(7, .one (li .i64 r2.2.1)), (6, .one (li .i64 r2.1)), (18, .one (li .i64 r2.2.1)), (17, .one (li .i64 r2.1)), (14, .tup [.one (li .i64 r2.1), .one (li .i64 r2.2.1)])] [] (by kernel_rfl) ?_
    refine SimI.done (by kernel_rfl) ?_
    refine SimE.thenN ?_
    refine Sim.seq ?_
    refine Sim.seq ?_
    refine Sim.region0 ?_
    refine SimI.run 2 [(20, .one (lb (r2.2.1 != 0))), (19, .one (li .i64 r2.2.1))] [] (by kernel_rfl) ?_
    refine SimI.done (by kernel_rfl) ?_
    refine SimE.thenN ?_
    refine Sim.cond (r2.2.1 != 0) (by kernel_rfl) ?_ ?_
    · refine Sim.seq ?_
      refine Sim.region0 ?_
      refine SimI.run 2 [(3, .one (li .i64 r2.2.1)), (21, .one (li .i64 r2.2.1))] [] (by kernel_rfl) ?_
      refine SimI.done (by kernel_rfl) ?_
      refine SimE.thenN ?_
      refine Sim.ret ?_
      refine SimE.thenR ?_
      refine SimE.blockR ?_
      refine SimE.thenR ?_
      refine SimE.loopR ?_
      refine SimE.blockR ?_
      refine SimE.thenR ?_
      exact SimE.fin (by kernel_rfl)
    · refine Sim.skip ?_
      refine SimE.thenN ?_
      refine Sim.region0 ?_
      refine SimI.run 6 [(26, .one (.ptr 1000001 2)), (25, .one (li .i64 (imin (imax r2.1 (-1000001)) 1000001))), (24, .one (li .i64 (imax r2.1 (-1000001)))), (23, .one (li .i64 r2.1)), (22, .one (.ptr 1000001 2))] [(1000001, some (.cells [li .i64 a0.Kind, li .i64 (imin (imax r1.1 (-1000001)) 1000001), li .i64 (imin (imax r2.1 (-1000001)) 1000001), li .i64 a0.To, li .i64 a0.At.X, li .i64 a0.At.Y, li .i64 a0.F.a0.N, ls a0.F.a0.Text, li .i64 a0.F.a1.N, ls a0.F.a1.Text, li .i64 a0.F.a2.N, ls a0.F.a2.Text, li .i64 a0.F.a3.N, ls a0.F.a3.Text, li .i64 a0.Value.N, ls a0.Value.Text, li .i64 a0.Client, li .i64 a0.Session, li .i64 a0.Rect.X0, li .i64 a0.Rect.Y0, li .i64 a0.Rect.X1, li .i64 a0.Rect.Y1]))] (by kernel_rfl) ?_
      refine SimI.done (by kernel_rfl) ?_
      refine SimE.blockN ?_
      refine SimE.thenN ?_
      refine Sim.region0 ?_
      refine SimI.run 2 [(10, .one (li .i64 2)), (27, .one (li .i64 2))] [] (by kernel_rfl) ?_
      refine SimI.done (by kernel_rfl) ?_
      refine SimE.loopN ?_
      refine SimL.succ ?_
      refine Sim.seq ?_
      refine Sim.region [(1, .one (.ptr 1000002 0)), (8, .one (.csl 1000000 1 0 2)), (9, .one (li .i64 2)), (10, .one (li .i64 2))] [(1000000, some (.cells [.ptr 1000001 1, .ptr 1000001 2])), (1000001, some (.cells [li .i64 a0.Kind, li .i64 (imin (imax r1.1 (-1000001)) 1000001), li .i64 (imin (imax r2.1 (-1000001)) 1000001), li .i64 a0.To, li .i64 a0.At.X, li .i64 a0.At.Y, li .i64 a0.F.a0.N, ls a0.F.a0.Text, li .i64 a0.F.a1.N, ls a0.F.a1.Text, li .i64 a0.F.a2.N, ls a0.F.a2.Text, li .i64 a0.F.a3.N, ls a0.F.a3.Text, li .i64 a0.Value.N, ls a0.Value.Text, li .i64 a0.Client, li .i64 a0.Session, li .i64 a0.Rect.X0, li .i64 a0.Rect.Y0, li .i64 a0.Rect.X1, li .i64 a0.Rect.Y1])), (1000002, some (.cells [.fn 64 [.ptr 1000003 0, .ptr 1000004 0]])), (1000003, some (.cells [ls a1])), (1000004, some (.cells [li .i64 r2.2.2]))] (by kernel_rfl) ?_
      refine SimI.run 1 [(11, .one (lb false))] [] (by kernel_rfl) ?_
      refine SimI.done (by kernel_rfl) ?_
      refine SimE.thenN ?_
      refine Sim.seq ?_
      refine Sim.condF (by kernel_rfl) ?_
      refine Sim.exit ?_
      refine SimE.thenX ?_
      refine SimE.loopX ?_
      refine SimE.blockX ?_
      refine SimE.thenN ?_
      refine Sim.seq ?_
      refine Sim.region0 ?_
      refine SimI.run 1 [(3, .one (li .i64 0))] [] (by kernel_rfl) ?_
      refine SimI.done (by kernel_rfl) ?_
      refine SimE.thenN ?_
      refine Sim.ret ?_
      exact SimE.fin (by kernel_rfl)

def F66s5_e (a0 : Command) (a1 : ByteArray) (a2 : Int) : (Int × Command × Int) → PV × List Ob := fun r => (.one (li .i64 r.1), [.cells [.ptr 1000001 1, .ptr 1000001 4, .ptr 1000001 5], .cells (Command.cells r.2.1), .cells [.fn 64 [.ptr 1000003 0, .ptr 1000004 0]], .cells [ls a1], .cells [li .i64 r.2.2]])
def F66s5 (n : Nat) (a0 : Command) (a1 : ByteArray) (a2 : Int) : Option (Int × Command × Int) :=
  (F64s0 n a1 a2).bind fun (r1 : (Int × Int × Int)) =>
  if r1.2.1 != 0 then
    some (r1.2.1, a0, r1.2.2)
  else
    (F64s0 n a1 r1.2.2).bind fun (r2 : (Int × Int × Int)) =>
    if r2.2.1 != 0 then
      some (r2.2.1, (Command.mk a0.Kind (imin (imax r1.1 (-1000001)) 1000001) a0.Which a0.To a0.At a0.F a0.Value a0.Client a0.Session a0.Rect), r2.2.2)
    else
      (F64s0 n a1 r2.2.2).bind fun (r3 : (Int × Int × Int)) =>
      if r3.2.1 != 0 then
        some (r3.2.1, (Command.mk a0.Kind (imin (imax r1.1 (-1000001)) 1000001) a0.Which a0.To (Point.mk (imin (imax r2.1 (-1000001)) 1000001) a0.At.Y) a0.F a0.Value a0.Client a0.Session a0.Rect), r3.2.2)
      else
        some (0, (Command.mk a0.Kind (imin (imax r1.1 (-1000001)) 1000001) a0.Which a0.To (Point.mk (imin (imax r2.1 (-1000001)) 1000001) (imin (imax r3.1 (-1000001)) 1000001)) a0.F a0.Value a0.Client a0.Session a0.Rect), r3.2.2)
theorem F66s5_ok (n : Nat) (a0 : Command) (a1 : ByteArray) (a2 : Int) : ∀ r, F66s5 n a0 a1 a2 = some r → D 66 [.one (.csl 1000000 1 0 3), .one (.ptr 1000002 0)] [.cells [.ptr 1000001 1, .ptr 1000001 4, .ptr 1000001 5], .cells (Command.cells a0), .cells [.fn 64 [.ptr 1000003 0, .ptr 1000004 0]], .cells [ls a1], .cells [li .i64 a2]] = some ((F66s5_e a0 a1 a2) r) := by
  refine fn_to (D := D) (n := n + 8) (nt := 28) (rs := pc66_r) (c := pc66_c32) (L := [(0, .one (.csl 1000000 1 0 3)), (1, .one (.ptr 1000002 0))]) (M := [(1000000, some (.cells [.ptr 1000001 1, .ptr 1000001 4, .ptr 1000001 5])), (1000001, some (.cells (Command.cells a0))), (1000002, some (.cells [.fn 64 [.ptr 1000003 0, .ptr 1000004 0]])), (1000003, some (.cells [ls a1])), (1000004, some (.cells [li .i64 a2]))]) (k := 5) rfl rfl rfl rfl rfl rfl rfl ?_
  unfold F66s5
  refine Sim.seq ?_
  refine Sim.region0 ?_
  refine SimI.run 1 [(3, .one (li .i64 0))] [] (by kernel_rfl) ?_
  refine SimI.done (by kernel_rfl) ?_
  refine SimE.thenN ?_
  refine Sim.seq ?_
  refine Sim.seq ?_
  refine Sim.region0 ?_
  refine SimI.run 3 [(10, .one (li .i64 0)), (9, .one (li .i64 3)), (8, .one (.csl 1000000 1 0 3))] [] (by kernel_rfl) ?_
  refine SimI.done (by kernel_rfl) ?_
  refine SimE.thenN ?_
  refine Sim.block ?_
  refine Sim.loop ?_
  refine SimL.succ ?_
  refine Sim.seq ?_
  refine Sim.region [(1, .one (.ptr 1000002 0)), (8, .one (.csl 1000000 1 0 3)), (9, .one (li .i64 3)), (10, .one (li .i64 0))] [(1000000, some (.cells [.ptr 1000001 1, .ptr 1000001 4, .ptr 1000001 5])), (1000001, some (.cells (Command.cells a0))), (1000002, some (.cells [.fn 64 [.ptr 1000003 0, .ptr 1000004 0]])), (1000003, some (.cells [ls a1])), (1000004, some (.cells [li .i64 a2]))] (by kernel_rfl) ?_
  refine SimI.run 1 [(11, .one (lb true))] [] (by kernel_rfl) ?_
  refine SimI.done (by kernel_rfl) ?_
  refine SimE.thenN ?_
  refine Sim.seq ?_
  refine Sim.condT (by kernel_rfl) ?_
  refine Sim.skip ?_
  refine SimE.thenN ?_
  refine Sim.seq ?_
  refine Sim.block ?_
  refine Sim.seq ?_
  refine Sim.region0 ?_
  refine SimI.run 3 [(5, .one (.ptr 1000001 1)), (13, .one (.ptr 1000001 1)), (12, .one (.ptr 1000000 0))] [] (by kernel_rfl) ?_
  refine SimI.done (by kernel_rfl) ?_
  refine SimE.thenN ?_
  refine Sim.seq ?_
  refine Sim.region0 ?_
  refine SimI.run 1 [(15, .one (.fn 64 [.ptr 1000003 0, .ptr 1000004 0]))] [] (by kernel_rfl) ?_
  refine SimI.bind (og := F64s0 n a1 a2) { dst := some 16, op := POp.gcallv false false [300000, 300001, 300002, 300003, 300004, 300005, 300006, 300007, 1000003, 1000004] [] (Operand.tmp 15) [], guard := none, hints := [] } (fun r1 => [(16, .tup [.one (li .i64 r1.1), .one (li .i64 r1.2.1)])]) (fun r1 => [(1000003, some (.cells [ls a1])), (1000004, some (.cells [li .i64 r1.2.2]))]) (by kernel_rfl) (fun r1 hr => pOp_eff (by kernel_rfl) (by kernel_rfl) (eff_gcallv (ks := [1000003, 1000004]) (rks := []) (new := []) (ARGS := [.one (.ptr 1000003 0), .one (.ptr 1000004 0)]) (args1 := [.one (.ptr 1000003 0), .one (.ptr 1000004 0)]) (args2 := [.one (.ptr 1000000 0), .one (.ptr 1000001 0)]) (os := [.cells [ls a1], .cells [li .i64 a2]]) (os' := [.cells [ls a1], .cells [li .i64 r1.2.2]]) (os1 := [.cells [ls a1], .cells [li .i64 r1.2.2]]) (res := .tup [.one (li .i64 r1.1), .one (li .i64 r1.2.1)]) (res1 := .tup [.one (li .i64 r1.1), .one (li .i64 r1.2.1)]) (r := .tup [.one (li .i64 r1.1), .one (li .i64 r1.2.1)]) (N := [(1000003, some (.cells [ls a1])), (1000004, some (.cells [li .i64 r1.2.2]))]) (caps := [.ptr 1000003 0, .ptr 1000004 0]) (by kernel_rfl) (by kernel_rfl) (readA_ow (readA_keep (by kernel_rfl) (readA_keep (by kernel_rfl) (readA_nil)))) (by kernel_rfl) (by kernel_rfl) (by kernel_rfl) (by kernel_rfl) (F64s0_ok n a1 a2 r1 hr) (by kernel_rfl) (by kernel_rfl) (by kernel_rfl) rfl (by kernel_rfl) (by kernel_rfl) (by kernel_rfl))) (fun r1 => ?_)
  refine SimI.run 5 [(7, .one (li .i64 r1.2.1)), (6, .one (li .i64 r1.1)), (18, .one (li .i64 r1.2.1)), (17, .one (li .i64 r1.1)), (14, .tup [.one (li .i64 r1.1), .one (li .i64 r1.2.1)])] [] (by kernel_rfl) ?_
  refine SimI.done (by kernel_rfl) ?_
  refine SimE.thenN ?_
  refine Sim.seq ?_
  refine Sim.seq ?_
  refine Sim.region0 ?_
  refine SimI.run 2 [(20, .one (lb (r1.2.1 != 0))), (19, .one (li .i64 r1.2.1))] [] (by kernel_rfl) ?_
  refine SimI.done (by kernel_rfl) ?_
  refine SimE.thenN ?_
  refine Sim.cond (r1.2.1 != 0) (by kernel_rfl) ?_ ?_
  · refine Sim.seq ?_
    refine Sim.region0 ?_
    refine SimI.run 2 [(3, .one (li .i64 r1.2.1)), (21, .one (li .i64 r1.2.1))] [] (by kernel_rfl) ?_
    refine SimI.done (by kernel_rfl) ?_
    refine SimE.thenN ?_
    refine Sim.ret ?_
    refine SimE.thenR ?_
    refine SimE.blockR ?_
    refine SimE.thenR ?_
    refine SimE.loopR ?_
    refine SimE.blockR ?_
    refine SimE.thenR ?_
    exact SimE.fin (by kernel_rfl)
  · refine Sim.skip ?_
    refine SimE.thenN ?_
    refine Sim.region0 ?_
    refine SimI.run 6 [(26, .one (.ptr 1000001 1)), (25, .one (li .i64 (imin (imax r1.1 (-1000001)) 1000001))), (24, .one (li .i64 (imax r1.1 (-1000001)))), (23, .one (li .i64 r1.1)), (22, .one (.ptr 1000001 1))] [(1000001, some (.cells [li .i64 a0.Kind, li .i64 (imin (imax r1.1 (-1000001)) 1000001), li .i64 a0.Which, li .i64 a0.To, li .i64 a0.At.X, li .i64 a0.At.Y, li .i64 a0.F.a0.N, ls a0.F.a0.Text, li .i64 a0.F.a1.N, ls a0.F.a1.Text, li .i64 a0.F.a2.N, ls a0.F.a2.Text, li .i64 a0.F.a3.N, ls a0.F.a3.Text, li .i64 a0.Value.N, ls a0.Value.Text, li .i64 a0.Client, li .i64 a0.Session, li .i64 a0.Rect.X0, li .i64 a0.Rect.Y0, li .i64 a0.Rect.X1, li .i64 a0.Rect.Y1]))] (by kernel_rfl) ?_
    refine SimI.done (by kernel_rfl) ?_
    refine SimE.blockN ?_
    refine SimE.thenN ?_
    refine Sim.region0 ?_
    refine SimI.run 2 [(10, .one (li .i64 1)), (27, .one (li .i64 1))] [] (by kernel_rfl) ?_
    refine SimI.done (by kernel_rfl) ?_
    refine SimE.loopN ?_
    refine SimL.succ ?_
    refine Sim.seq ?_
    refine Sim.region [(1, .one (.ptr 1000002 0)), (8, .one (.csl 1000000 1 0 3)), (9, .one (li .i64 3)), (10, .one (li .i64 1))] [(1000000, some (.cells [.ptr 1000001 1, .ptr 1000001 4, .ptr 1000001 5])), (1000001, some (.cells [li .i64 a0.Kind, li .i64 (imin (imax r1.1 (-1000001)) 1000001), li .i64 a0.Which, li .i64 a0.To, li .i64 a0.At.X, li .i64 a0.At.Y, li .i64 a0.F.a0.N, ls a0.F.a0.Text, li .i64 a0.F.a1.N, ls a0.F.a1.Text, li .i64 a0.F.a2.N, ls a0.F.a2.Text, li .i64 a0.F.a3.N, ls a0.F.a3.Text, li .i64 a0.Value.N, ls a0.Value.Text, li .i64 a0.Client, li .i64 a0.Session, li .i64 a0.Rect.X0, li .i64 a0.Rect.Y0, li .i64 a0.Rect.X1, li .i64 a0.Rect.Y1])), (1000002, some (.cells [.fn 64 [.ptr 1000003 0, .ptr 1000004 0]])), (1000003, some (.cells [ls a1])), (1000004, some (.cells [li .i64 r1.2.2]))] (by kernel_rfl) ?_
    refine SimI.run 1 [(11, .one (lb true))] [] (by kernel_rfl) ?_
    refine SimI.done (by kernel_rfl) ?_
    refine SimE.thenN ?_
    refine Sim.seq ?_
    refine Sim.condT (by kernel_rfl) ?_
    refine Sim.skip ?_
    refine SimE.thenN ?_
    refine Sim.seq ?_
    refine Sim.block ?_
    refine Sim.seq ?_
    refine Sim.region0 ?_
    refine SimI.run 3 [(5, .one (.ptr 1000001 4)), (13, .one (.ptr 1000001 4)), (12, .one (.ptr 1000000 1))] [] (by kernel_rfl) ?_
    refine SimI.done (by kernel_rfl) ?_
    refine SimE.thenN ?_
    refine Sim.seq ?_
    refine Sim.region0 ?_
    refine SimI.run 1 [(15, .one (.fn 64 [.ptr 1000003 0, .ptr 1000004 0]))] [] (by kernel_rfl) ?_
    refine SimI.bind (og := F64s0 n a1 r1.2.2) { dst := some 16, op := POp.gcallv false false [300000, 300001, 300002, 300003, 300004, 300005, 300006, 300007, 1000003, 1000004] [] (Operand.tmp 15) [], guard := none, hints := [] } (fun r2 => [(16, .tup [.one (li .i64 r2.1), .one (li .i64 r2.2.1)])]) (fun r2 => [(1000003, some (.cells [ls a1])), (1000004, some (.cells [li .i64 r2.2.2]))]) (by kernel_rfl) (fun r2 hr => pOp_eff (by kernel_rfl) (by kernel_rfl) (eff_gcallv (ks := [1000003, 1000004]) (rks := []) (new := []) (ARGS := [.one (.ptr 1000003 0), .one (.ptr 1000004 0)]) (args1 := [.one (.ptr 1000003 0), .one (.ptr 1000004 0)]) (args2 := [.one (.ptr 1000000 0), .one (.ptr 1000001 0)]) (os := [.cells [ls a1], .cells [li .i64 r1.2.2]]) (os' := [.cells [ls a1], .cells [li .i64 r2.2.2]]) (os1 := [.cells [ls a1], .cells [li .i64 r2.2.2]]) (res := .tup [.one (li .i64 r2.1), .one (li .i64 r2.2.1)]) (res1 := .tup [.one (li .i64 r2.1), .one (li .i64 r2.2.1)]) (r := .tup [.one (li .i64 r2.1), .one (li .i64 r2.2.1)]) (N := [(1000003, some (.cells [ls a1])), (1000004, some (.cells [li .i64 r2.2.2]))]) (caps := [.ptr 1000003 0, .ptr 1000004 0]) (by kernel_rfl) (by kernel_rfl) (readA_ow (readA_keep (by kernel_rfl) (readA_keep (by kernel_rfl) (readA_nil)))) (by kernel_rfl) (by kernel_rfl) (by kernel_rfl) (by kernel_rfl) (F64s0_ok n a1 r1.2.2 r2 hr) (by kernel_rfl) (by kernel_rfl) (by kernel_rfl) rfl (by kernel_rfl) (by kernel_rfl) (by kernel_rfl))) (fun r2 => ?_)
    refine SimI.run 5 [(7, .one (li .i64 r2.2.1)), (6, .one (li .i64 r2.1)), (18, .one (li .i64 r2.2.1)), (17, .one (li .i64 r2.1)), (14, .tup [.one (li .i64 r2.1), .one (li .i64 r2.2.1)])] [] (by kernel_rfl) ?_
    refine SimI.done (by kernel_rfl) ?_
    refine SimE.thenN ?_
    refine Sim.seq ?_
    refine Sim.seq ?_
    refine Sim.region0 ?_
    refine SimI.run 2 [(20, .one (lb (r2.2.1 != 0))), (19, .one (li .i64 r2.2.1))] [] (by kernel_rfl) ?_
    refine SimI.done (by kernel_rfl) ?_
    refine SimE.thenN ?_
    refine Sim.cond (r2.2.1 != 0) (by kernel_rfl) ?_ ?_
    · refine Sim.seq ?_
      refine Sim.region0 ?_
      refine SimI.run 2 [(3, .one (li .i64 r2.2.1)), (21, .one (li .i64 r2.2.1))] [] (by kernel_rfl) ?_
      refine SimI.done (by kernel_rfl) ?_
      refine SimE.thenN ?_
      refine Sim.ret ?_
      refine SimE.thenR ?_
      refine SimE.blockR ?_
      refine SimE.thenR ?_
      refine SimE.loopR ?_
      refine SimE.blockR ?_
      refine SimE.thenR ?_
      exact SimE.fin (by kernel_rfl)
    · refine Sim.skip ?_
      refine SimE.thenN ?_
      refine Sim.region0 ?_
      refine SimI.run 6 [(26, .one (.ptr 1000001 4)), (25, .one (li .i64 (imin (imax r2.1 (-1000001)) 1000001))), (24, .one (li .i64 (imax r2.1 (-1000001)))), (23, .one (li .i64 r2.1)), (22, .one (.ptr 1000001 4))] [(1000001, some (.cells [li .i64 a0.Kind, li .i64 (imin (imax r1.1 (-1000001)) 1000001), li .i64 a0.Which, li .i64 a0.To, li .i64 (imin (imax r2.1 (-1000001)) 1000001), li .i64 a0.At.Y, li .i64 a0.F.a0.N, ls a0.F.a0.Text, li .i64 a0.F.a1.N, ls a0.F.a1.Text, li .i64 a0.F.a2.N, ls a0.F.a2.Text, li .i64 a0.F.a3.N, ls a0.F.a3.Text, li .i64 a0.Value.N, ls a0.Value.Text, li .i64 a0.Client, li .i64 a0.Session, li .i64 a0.Rect.X0, li .i64 a0.Rect.Y0, li .i64 a0.Rect.X1, li .i64 a0.Rect.Y1]))] (by kernel_rfl) ?_
      refine SimI.done (by kernel_rfl) ?_
      refine SimE.blockN ?_
      refine SimE.thenN ?_
      refine Sim.region0 ?_
      refine SimI.run 2 [(10, .one (li .i64 2)), (27, .one (li .i64 2))] [] (by kernel_rfl) ?_
      refine SimI.done (by kernel_rfl) ?_
      refine SimE.loopN ?_
      refine SimL.succ ?_
      refine Sim.seq ?_
      refine Sim.region [(1, .one (.ptr 1000002 0)), (8, .one (.csl 1000000 1 0 3)), (9, .one (li .i64 3)), (10, .one (li .i64 2))] [(1000000, some (.cells [.ptr 1000001 1, .ptr 1000001 4, .ptr 1000001 5])), (1000001, some (.cells [li .i64 a0.Kind, li .i64 (imin (imax r1.1 (-1000001)) 1000001), li .i64 a0.Which, li .i64 a0.To, li .i64 (imin (imax r2.1 (-1000001)) 1000001), li .i64 a0.At.Y, li .i64 a0.F.a0.N, ls a0.F.a0.Text, li .i64 a0.F.a1.N, ls a0.F.a1.Text, li .i64 a0.F.a2.N, ls a0.F.a2.Text, li .i64 a0.F.a3.N, ls a0.F.a3.Text, li .i64 a0.Value.N, ls a0.Value.Text, li .i64 a0.Client, li .i64 a0.Session, li .i64 a0.Rect.X0, li .i64 a0.Rect.Y0, li .i64 a0.Rect.X1, li .i64 a0.Rect.Y1])), (1000002, some (.cells [.fn 64 [.ptr 1000003 0, .ptr 1000004 0]])), (1000003, some (.cells [ls a1])), (1000004, some (.cells [li .i64 r2.2.2]))] (by kernel_rfl) ?_
      refine SimI.run 1 [(11, .one (lb true))] [] (by kernel_rfl) ?_
      refine SimI.done (by kernel_rfl) ?_
      refine SimE.thenN ?_
      refine Sim.seq ?_
      refine Sim.condT (by kernel_rfl) ?_
      refine Sim.skip ?_
      refine SimE.thenN ?_
      refine Sim.seq ?_
      refine Sim.block ?_
      refine Sim.seq ?_
      refine Sim.region0 ?_
      refine SimI.run 3 [(5, .one (.ptr 1000001 5)), (13, .one (.ptr 1000001 5)), (12, .one (.ptr 1000000 2))] [] (by kernel_rfl) ?_
      refine SimI.done (by kernel_rfl) ?_
      refine SimE.thenN ?_
      refine Sim.seq ?_
      refine Sim.region0 ?_
      refine SimI.run 1 [(15, .one (.fn 64 [.ptr 1000003 0, .ptr 1000004 0]))] [] (by kernel_rfl) ?_
      refine SimI.bind (og := F64s0 n a1 r2.2.2) { dst := some 16, op := POp.gcallv false false [300000, 300001, 300002, 300003, 300004, 300005, 300006, 300007, 1000003, 1000004] [] (Operand.tmp 15) [], guard := none, hints := [] } (fun r3 => [(16, .tup [.one (li .i64 r3.1), .one (li .i64 r3.2.1)])]) (fun r3 => [(1000003, some (.cells [ls a1])), (1000004, some (.cells [li .i64 r3.2.2]))]) (by kernel_rfl) (fun r3 hr => pOp_eff (by kernel_rfl) (by kernel_rfl) (eff_gcallv (ks := [1000003, 1000004]) (rks := []) (new := []) (ARGS := [.one (.ptr 1000003 0), .one (.ptr 1000004 0)]) (args1 := [.one (.ptr 1000003 0), .one (.ptr 1000004 0)]) (args2 := [.one (.ptr 1000000 0), .one (.ptr 1000001 0)]) (os := [.cells [ls a1], .cells [li .i64 r2.2.2]]) (os' := [.cells [ls a1], .cells [li .i64 r3.2.2]]) (os1 := [.cells [ls a1], .cells [li .i64 r3.2.2]]) (res := .tup [.one (li .i64 r3.1), .one (li .i64 r3.2.1)]) (res1 := .tup [.one (li .i64 r3.1), .one (li .i64 r3.2.1)]) (r := .tup [.one (li .i64 r3.1), .one (li .i64 r3.2.1)]) (N := [(1000003, some (.cells [ls a1])), (1000004, some (.cells [li .i64 r3.2.2]))]) (caps := [.ptr 1000003 0, .ptr 1000004 0]) (by kernel_rfl) (by kernel_rfl) (readA_ow (readA_keep (by kernel_rfl) (readA_keep (by kernel_rfl) (readA_nil)))) (by kernel_rfl) (by kernel_rfl) (by kernel_rfl) (by kernel_rfl) (F64s0_ok n a1 r2.2.2 r3 hr) (by kernel_rfl) (by kernel_rfl) (by kernel_rfl) rfl (by kernel_rfl) (by kernel_rfl) (by kernel_rfl))) (fun r3 => ?_)
      refine SimI.run 5 [(7, .one (li .i64 r3.2.1)), (6, .one (li .i64 r3.1)), (18, .one (li .i64 r3.2.1)), (17, .one (li .i64 r3.1)), (14, .tup [.one (li .i64 r3.1), .one (li .i64 r3.2.1)])] [] (by kernel_rfl) ?_
      refine SimI.done (by kernel_rfl) ?_
      refine SimE.thenN ?_
      refine Sim.seq ?_
      refine Sim.seq ?_
      refine Sim.region0 ?_
      refine SimI.run 2 [(20, .one (lb (r3.2.1 != 0))), (19, .one (li .i64 r3.2.1))] [] (by kernel_rfl) ?_
      refine SimI.done (by kernel_rfl) ?_
      refine SimE.thenN ?_
      refine Sim.cond (r3.2.1 != 0) (by kernel_rfl) ?_ ?_
      · refine Sim.seq ?_
        refine Sim.region0 ?_
        refine SimI.run 2 [(3, .one (li .i64 r3.2.1)), (21, .one (li .i64 r3.2.1))] [] (by kernel_rfl) ?_
        refine SimI.done (by kernel_rfl) ?_
        refine SimE.thenN ?_
        refine Sim.ret ?_
        refine SimE.thenR ?_
        refine SimE.blockR ?_
        refine SimE.thenR ?_
        refine SimE.loopR ?_
        refine SimE.blockR ?_
        refine SimE.thenR ?_
        exact SimE.fin (by kernel_rfl)
      · refine Sim.skip ?_
        refine SimE.thenN ?_
        refine Sim.region0 ?_
        refine SimI.run 6 [(26, .one (.ptr 1000001 5)), (25, .one (li .i64 (imin (imax r3.1 (-1000001)) 1000001))), (24, .one (li .i64 (imax r3.1 (-1000001)))), (23, .one (li .i64 r3.1)), (22, .one (.ptr 1000001 5))] [(1000001, some (.cells [li .i64 a0.Kind, li .i64 (imin (imax r1.1 (-1000001)) 1000001), li .i64 a0.Which, li .i64 a0.To, li .i64 (imin (imax r2.1 (-1000001)) 1000001), li .i64 (imin (imax r3.1 (-1000001)) 1000001), li .i64 a0.F.a0.N, ls a0.F.a0.Text, li .i64 a0.F.a1.N, ls a0.F.a1.Text, li .i64 a0.F.a2.N, ls a0.F.a2.Text, li .i64 a0.F.a3.N, ls a0.F.a3.Text, li .i64 a0.Value.N, ls a0.Value.Text, li .i64 a0.Client, li .i64 a0.Session, li .i64 a0.Rect.X0, li .i64 a0.Rect.Y0, li .i64 a0.Rect.X1, li .i64 a0.Rect.Y1]))] (by kernel_rfl) ?_
        refine SimI.done (by kernel_rfl) ?_
        refine SimE.blockN ?_
        refine SimE.thenN ?_
        refine Sim.region0 ?_
        refine SimI.run 2 [(10, .one (li .i64 3)), (27, .one (li .i64 3))] [] (by kernel_rfl) ?_
        refine SimI.done (by kernel_rfl) ?_
        refine SimE.loopN ?_
        refine SimL.succ ?_
        refine Sim.seq ?_
        refine Sim.region [(1, .one (.ptr 1000002 0)), (8, .one (.csl 1000000 1 0 3)), (9, .one (li .i64 3)), (10, .one (li .i64 3))] [(1000000, some (.cells [.ptr 1000001 1, .ptr 1000001 4, .ptr 1000001 5])), (1000001, some (.cells [li .i64 a0.Kind, li .i64 (imin (imax r1.1 (-1000001)) 1000001), li .i64 a0.Which, li .i64 a0.To, li .i64 (imin (imax r2.1 (-1000001)) 1000001), li .i64 (imin (imax r3.1 (-1000001)) 1000001), li .i64 a0.F.a0.N, ls a0.F.a0.Text, li .i64 a0.F.a1.N, ls a0.F.a1.Text, li .i64 a0.F.a2.N, ls a0.F.a2.Text, li .i64 a0.F.a3.N, ls a0.F.a3.Text, li .i64 a0.Value.N, ls a0.Value.Text, li .i64 a0.Client, li .i64 a0.Session, li .i64 a0.Rect.X0, li .i64 a0.Rect.Y0, li .i64 a0.Rect.X1, li .i64 a0.Rect.Y1])), (1000002, some (.cells [.fn 64 [.ptr 1000003 0, .ptr 1000004 0]])), (1000003, some (.cells [ls a1])), (1000004, some (.cells [li .i64 r3.2.2]))] (by kernel_rfl) ?_
        refine SimI.run 1 [(11, .one (lb false))] [] (by kernel_rfl) ?_
        refine SimI.done (by kernel_rfl) ?_
        refine SimE.thenN ?_
        refine Sim.seq ?_
        refine Sim.condF (by kernel_rfl) ?_
        refine Sim.exit ?_
        refine SimE.thenX ?_
        refine SimE.loopX ?_
        refine SimE.blockX ?_
        refine SimE.thenN ?_
        refine Sim.seq ?_
        refine Sim.region0 ?_
        refine SimI.run 1 [(3, .one (li .i64 0))] [] (by kernel_rfl) ?_
        refine SimI.done (by kernel_rfl) ?_
        refine SimE.thenN ?_
        refine Sim.ret ?_
        exact SimE.fin (by kernel_rfl)

def F66s6_e (a0 : Command) (a1 : ByteArray) (a2 : Int) : (Int × Command × Int) → PV × List Ob := fun r => (.one (li .i64 r.1), [.cells [.ptr 1000001 4, .ptr 1000001 5], .cells (Command.cells r.2.1), .cells [.fn 64 [.ptr 1000003 0, .ptr 1000004 0]], .cells [ls a1], .cells [li .i64 r.2.2]])
def F66s6 (n : Nat) (a0 : Command) (a1 : ByteArray) (a2 : Int) : Option (Int × Command × Int) :=
  (F64s0 n a1 a2).bind fun (r1 : (Int × Int × Int)) =>
  if r1.2.1 != 0 then
    some (r1.2.1, a0, r1.2.2)
  else
    (F64s0 n a1 r1.2.2).bind fun (r2 : (Int × Int × Int)) =>
    if r2.2.1 != 0 then
      some (r2.2.1, (Command.mk a0.Kind a0.ID a0.Which a0.To (Point.mk (imin (imax r1.1 (-1000001)) 1000001) a0.At.Y) a0.F a0.Value a0.Client a0.Session a0.Rect), r2.2.2)
    else
      some (0, (Command.mk a0.Kind a0.ID a0.Which a0.To (Point.mk (imin (imax r1.1 (-1000001)) 1000001) (imin (imax r2.1 (-1000001)) 1000001)) a0.F a0.Value a0.Client a0.Session a0.Rect), r2.2.2)
theorem F66s6_ok (n : Nat) (a0 : Command) (a1 : ByteArray) (a2 : Int) : ∀ r, F66s6 n a0 a1 a2 = some r → D 66 [.one (.csl 1000000 1 0 2), .one (.ptr 1000002 0)] [.cells [.ptr 1000001 4, .ptr 1000001 5], .cells (Command.cells a0), .cells [.fn 64 [.ptr 1000003 0, .ptr 1000004 0]], .cells [ls a1], .cells [li .i64 a2]] = some ((F66s6_e a0 a1 a2) r) := by
  refine fn_to (D := D) (n := n + 8) (nt := 28) (rs := pc66_r) (c := pc66_c32) (L := [(0, .one (.csl 1000000 1 0 2)), (1, .one (.ptr 1000002 0))]) (M := [(1000000, some (.cells [.ptr 1000001 4, .ptr 1000001 5])), (1000001, some (.cells (Command.cells a0))), (1000002, some (.cells [.fn 64 [.ptr 1000003 0, .ptr 1000004 0]])), (1000003, some (.cells [ls a1])), (1000004, some (.cells [li .i64 a2]))]) (k := 5) rfl rfl rfl rfl rfl rfl rfl ?_
  unfold F66s6
  refine Sim.seq ?_
  refine Sim.region0 ?_
  refine SimI.run 1 [(3, .one (li .i64 0))] [] (by kernel_rfl) ?_
  refine SimI.done (by kernel_rfl) ?_
  refine SimE.thenN ?_
  refine Sim.seq ?_
  refine Sim.seq ?_
  refine Sim.region0 ?_
  refine SimI.run 3 [(10, .one (li .i64 0)), (9, .one (li .i64 2)), (8, .one (.csl 1000000 1 0 2))] [] (by kernel_rfl) ?_
  refine SimI.done (by kernel_rfl) ?_
  refine SimE.thenN ?_
  refine Sim.block ?_
  refine Sim.loop ?_
  refine SimL.succ ?_
  refine Sim.seq ?_
  refine Sim.region [(1, .one (.ptr 1000002 0)), (8, .one (.csl 1000000 1 0 2)), (9, .one (li .i64 2)), (10, .one (li .i64 0))] [(1000000, some (.cells [.ptr 1000001 4, .ptr 1000001 5])), (1000001, some (.cells (Command.cells a0))), (1000002, some (.cells [.fn 64 [.ptr 1000003 0, .ptr 1000004 0]])), (1000003, some (.cells [ls a1])), (1000004, some (.cells [li .i64 a2]))] (by kernel_rfl) ?_
  refine SimI.run 1 [(11, .one (lb true))] [] (by kernel_rfl) ?_
  refine SimI.done (by kernel_rfl) ?_
  refine SimE.thenN ?_
  refine Sim.seq ?_
  refine Sim.condT (by kernel_rfl) ?_
  refine Sim.skip ?_
  refine SimE.thenN ?_
  refine Sim.seq ?_
  refine Sim.block ?_
  refine Sim.seq ?_
  refine Sim.region0 ?_
  refine SimI.run 3 [(5, .one (.ptr 1000001 4)), (13, .one (.ptr 1000001 4)), (12, .one (.ptr 1000000 0))] [] (by kernel_rfl) ?_
  refine SimI.done (by kernel_rfl) ?_
  refine SimE.thenN ?_
  refine Sim.seq ?_
  refine Sim.region0 ?_
  refine SimI.run 1 [(15, .one (.fn 64 [.ptr 1000003 0, .ptr 1000004 0]))] [] (by kernel_rfl) ?_
  refine SimI.bind (og := F64s0 n a1 a2) { dst := some 16, op := POp.gcallv false false [300000, 300001, 300002, 300003, 300004, 300005, 300006, 300007, 1000003, 1000004] [] (Operand.tmp 15) [], guard := none, hints := [] } (fun r1 => [(16, .tup [.one (li .i64 r1.1), .one (li .i64 r1.2.1)])]) (fun r1 => [(1000003, some (.cells [ls a1])), (1000004, some (.cells [li .i64 r1.2.2]))]) (by kernel_rfl) (fun r1 hr => pOp_eff (by kernel_rfl) (by kernel_rfl) (eff_gcallv (ks := [1000003, 1000004]) (rks := []) (new := []) (ARGS := [.one (.ptr 1000003 0), .one (.ptr 1000004 0)]) (args1 := [.one (.ptr 1000003 0), .one (.ptr 1000004 0)]) (args2 := [.one (.ptr 1000000 0), .one (.ptr 1000001 0)]) (os := [.cells [ls a1], .cells [li .i64 a2]]) (os' := [.cells [ls a1], .cells [li .i64 r1.2.2]]) (os1 := [.cells [ls a1], .cells [li .i64 r1.2.2]]) (res := .tup [.one (li .i64 r1.1), .one (li .i64 r1.2.1)]) (res1 := .tup [.one (li .i64 r1.1), .one (li .i64 r1.2.1)]) (r := .tup [.one (li .i64 r1.1), .one (li .i64 r1.2.1)]) (N := [(1000003, some (.cells [ls a1])), (1000004, some (.cells [li .i64 r1.2.2]))]) (caps := [.ptr 1000003 0, .ptr 1000004 0]) (by kernel_rfl) (by kernel_rfl) (readA_ow (readA_keep (by kernel_rfl) (readA_keep (by kernel_rfl) (readA_nil)))) (by kernel_rfl) (by kernel_rfl) (by kernel_rfl) (by kernel_rfl) (F64s0_ok n a1 a2 r1 hr) (by kernel_rfl) (by kernel_rfl) (by kernel_rfl) rfl (by kernel_rfl) (by kernel_rfl) (by kernel_rfl))) (fun r1 => ?_)
  refine SimI.run 5 [(7, .one (li .i64 r1.2.1)), (6, .one (li .i64 r1.1)), (18, .one (li .i64 r1.2.1)), (17, .one (li .i64 r1.1)), (14, .tup [.one (li .i64 r1.1), .one (li .i64 r1.2.1)])] [] (by kernel_rfl) ?_
  refine SimI.done (by kernel_rfl) ?_
  refine SimE.thenN ?_
  refine Sim.seq ?_
  refine Sim.seq ?_
  refine Sim.region0 ?_
  refine SimI.run 2 [(20, .one (lb (r1.2.1 != 0))), (19, .one (li .i64 r1.2.1))] [] (by kernel_rfl) ?_
  refine SimI.done (by kernel_rfl) ?_
  refine SimE.thenN ?_
  refine Sim.cond (r1.2.1 != 0) (by kernel_rfl) ?_ ?_
  · refine Sim.seq ?_
    refine Sim.region0 ?_
    refine SimI.run 2 [(3, .one (li .i64 r1.2.1)), (21, .one (li .i64 r1.2.1))] [] (by kernel_rfl) ?_
    refine SimI.done (by kernel_rfl) ?_
    refine SimE.thenN ?_
    refine Sim.ret ?_
    refine SimE.thenR ?_
    refine SimE.blockR ?_
    refine SimE.thenR ?_
    refine SimE.loopR ?_
    refine SimE.blockR ?_
    refine SimE.thenR ?_
    exact SimE.fin (by kernel_rfl)
  · refine Sim.skip ?_
    refine SimE.thenN ?_
    refine Sim.region0 ?_
    refine SimI.run 6 [(26, .one (.ptr 1000001 4)), (25, .one (li .i64 (imin (imax r1.1 (-1000001)) 1000001))), (24, .one (li .i64 (imax r1.1 (-1000001)))), (23, .one (li .i64 r1.1)), (22, .one (.ptr 1000001 4))] [(1000001, some (.cells [li .i64 a0.Kind, li .i64 a0.ID, li .i64 a0.Which, li .i64 a0.To, li .i64 (imin (imax r1.1 (-1000001)) 1000001), li .i64 a0.At.Y, li .i64 a0.F.a0.N, ls a0.F.a0.Text, li .i64 a0.F.a1.N, ls a0.F.a1.Text, li .i64 a0.F.a2.N, ls a0.F.a2.Text, li .i64 a0.F.a3.N, ls a0.F.a3.Text, li .i64 a0.Value.N, ls a0.Value.Text, li .i64 a0.Client, li .i64 a0.Session, li .i64 a0.Rect.X0, li .i64 a0.Rect.Y0, li .i64 a0.Rect.X1, li .i64 a0.Rect.Y1]))] (by kernel_rfl) ?_
    refine SimI.done (by kernel_rfl) ?_
    refine SimE.blockN ?_
    refine SimE.thenN ?_
    refine Sim.region0 ?_
    refine SimI.run 2 [(10, .one (li .i64 1)), (27, .one (li .i64 1))] [] (by kernel_rfl) ?_
    refine SimI.done (by kernel_rfl) ?_
    refine SimE.loopN ?_
    refine SimL.succ ?_
    refine Sim.seq ?_
    refine Sim.region [(1, .one (.ptr 1000002 0)), (8, .one (.csl 1000000 1 0 2)), (9, .one (li .i64 2)), (10, .one (li .i64 1))] [(1000000, some (.cells [.ptr 1000001 4, .ptr 1000001 5])), (1000001, some (.cells [li .i64 a0.Kind, li .i64 a0.ID, li .i64 a0.Which, li .i64 a0.To, li .i64 (imin (imax r1.1 (-1000001)) 1000001), li .i64 a0.At.Y, li .i64 a0.F.a0.N, ls a0.F.a0.Text, li .i64 a0.F.a1.N, ls a0.F.a1.Text, li .i64 a0.F.a2.N, ls a0.F.a2.Text, li .i64 a0.F.a3.N, ls a0.F.a3.Text, li .i64 a0.Value.N, ls a0.Value.Text, li .i64 a0.Client, li .i64 a0.Session, li .i64 a0.Rect.X0, li .i64 a0.Rect.Y0, li .i64 a0.Rect.X1, li .i64 a0.Rect.Y1])), (1000002, some (.cells [.fn 64 [.ptr 1000003 0, .ptr 1000004 0]])), (1000003, some (.cells [ls a1])), (1000004, some (.cells [li .i64 r1.2.2]))] (by kernel_rfl) ?_
    refine SimI.run 1 [(11, .one (lb true))] [] (by kernel_rfl) ?_
    refine SimI.done (by kernel_rfl) ?_
    refine SimE.thenN ?_
    refine Sim.seq ?_
    refine Sim.condT (by kernel_rfl) ?_
    refine Sim.skip ?_
    refine SimE.thenN ?_
    refine Sim.seq ?_
    refine Sim.block ?_
    refine Sim.seq ?_
    refine Sim.region0 ?_
    refine SimI.run 3 [(5, .one (.ptr 1000001 5)), (13, .one (.ptr 1000001 5)), (12, .one (.ptr 1000000 1))] [] (by kernel_rfl) ?_
    refine SimI.done (by kernel_rfl) ?_
    refine SimE.thenN ?_
    refine Sim.seq ?_
    refine Sim.region0 ?_
    refine SimI.run 1 [(15, .one (.fn 64 [.ptr 1000003 0, .ptr 1000004 0]))] [] (by kernel_rfl) ?_
    refine SimI.bind (og := F64s0 n a1 r1.2.2) { dst := some 16, op := POp.gcallv false false [300000, 300001, 300002, 300003, 300004, 300005, 300006, 300007, 1000003, 1000004] [] (Operand.tmp 15) [], guard := none, hints := [] } (fun r2 => [(16, .tup [.one (li .i64 r2.1), .one (li .i64 r2.2.1)])]) (fun r2 => [(1000003, some (.cells [ls a1])), (1000004, some (.cells [li .i64 r2.2.2]))]) (by kernel_rfl) (fun r2 hr => pOp_eff (by kernel_rfl) (by kernel_rfl) (eff_gcallv (ks := [1000003, 1000004]) (rks := []) (new := []) (ARGS := [.one (.ptr 1000003 0), .one (.ptr 1000004 0)]) (args1 := [.one (.ptr 1000003 0), .one (.ptr 1000004 0)]) (args2 := [.one (.ptr 1000000 0), .one (.ptr 1000001 0)]) (os := [.cells [ls a1], .cells [li .i64 r1.2.2]]) (os' := [.cells [ls a1], .cells [li .i64 r2.2.2]]) (os1 := [.cells [ls a1], .cells [li .i64 r2.2.2]]) (res := .tup [.one (li .i64 r2.1), .one (li .i64 r2.2.1)]) (res1 := .tup [.one (li .i64 r2.1), .one (li .i64 r2.2.1)]) (r := .tup [.one (li .i64 r2.1), .one (li .i64 r2.2.1)]) (N := [(1000003, some (.cells [ls a1])), (1000004, some (.cells [li .i64 r2.2.2]))]) (caps := [.ptr 1000003 0, .ptr 1000004 0]) (by kernel_rfl) (by kernel_rfl) (readA_ow (readA_keep (by kernel_rfl) (readA_keep (by kernel_rfl) (readA_nil)))) (by kernel_rfl) (by kernel_rfl) (by kernel_rfl) (by kernel_rfl) (F64s0_ok n a1 r1.2.2 r2 hr) (by kernel_rfl) (by kernel_rfl) (by kernel_rfl) rfl (by kernel_rfl) (by kernel_rfl) (by kernel_rfl))) (fun r2 => ?_)
    refine SimI.run 5 [(7, .one (li .i64 r2.2.1)), (6, .one (li .i64 r2.1)), (18, .one (li .i64 r2.2.1)), (17, .one (li .i64 r2.1)), (14, .tup [.one (li .i64 r2.1), .one (li .i64 r2.2.1)])] [] (by kernel_rfl) ?_
    refine SimI.done (by kernel_rfl) ?_
    refine SimE.thenN ?_
    refine Sim.seq ?_
    refine Sim.seq ?_
    refine Sim.region0 ?_
    refine SimI.run 2 [(20, .one (lb (r2.2.1 != 0))), (19, .one (li .i64 r2.2.1))] [] (by kernel_rfl) ?_
    refine SimI.done (by kernel_rfl) ?_
    refine SimE.thenN ?_
    refine Sim.cond (r2.2.1 != 0) (by kernel_rfl) ?_ ?_
    · refine Sim.seq ?_
      refine Sim.region0 ?_
      refine SimI.run 2 [(3, .one (li .i64 r2.2.1)), (21, .one (li .i64 r2.2.1))] [] (by kernel_rfl) ?_
      refine SimI.done (by kernel_rfl) ?_
      refine SimE.thenN ?_
      refine Sim.ret ?_
      refine SimE.thenR ?_
      refine SimE.blockR ?_
      refine SimE.thenR ?_
      refine SimE.loopR ?_
      refine SimE.blockR ?_
      refine SimE.thenR ?_
      exact SimE.fin (by kernel_rfl)
    · refine Sim.skip ?_
      refine SimE.thenN ?_
      refine Sim.region0 ?_
      refine SimI.run 6 [(26, .one (.ptr 1000001 5)), (25, .one (li .i64 (imin (imax r2.1 (-1000001)) 1000001))), (24, .one (li .i64 (imax r2.1 (-1000001)))), (23, .one (li .i64 r2.1)), (22, .one (.ptr 1000001 5))] [(1000001, some (.cells [li .i64 a0.Kind, li .i64 a0.ID, li .i64 a0.Which, li .i64 a0.To, li .i64 (imin (imax r1.1 (-1000001)) 1000001), li .i64 (imin (imax r2.1 (-1000001)) 1000001), li .i64 a0.F.a0.N, ls a0.F.a0.Text, li .i64 a0.F.a1.N, ls a0.F.a1.Text, li .i64 a0.F.a2.N, ls a0.F.a2.Text, li .i64 a0.F.a3.N, ls a0.F.a3.Text, li .i64 a0.Value.N, ls a0.Value.Text, li .i64 a0.Client, li .i64 a0.Session, li .i64 a0.Rect.X0, li .i64 a0.Rect.Y0, li .i64 a0.Rect.X1, li .i64 a0.Rect.Y1]))] (by kernel_rfl) ?_
      refine SimI.done (by kernel_rfl) ?_
      refine SimE.blockN ?_
      refine SimE.thenN ?_
      refine Sim.region0 ?_
      refine SimI.run 2 [(10, .one (li .i64 2)), (27, .one (li .i64 2))] [] (by kernel_rfl) ?_
      refine SimI.done (by kernel_rfl) ?_
      refine SimE.loopN ?_
      refine SimL.succ ?_
      refine Sim.seq ?_
      refine Sim.region [(1, .one (.ptr 1000002 0)), (8, .one (.csl 1000000 1 0 2)), (9, .one (li .i64 2)), (10, .one (li .i64 2))] [(1000000, some (.cells [.ptr 1000001 4, .ptr 1000001 5])), (1000001, some (.cells [li .i64 a0.Kind, li .i64 a0.ID, li .i64 a0.Which, li .i64 a0.To, li .i64 (imin (imax r1.1 (-1000001)) 1000001), li .i64 (imin (imax r2.1 (-1000001)) 1000001), li .i64 a0.F.a0.N, ls a0.F.a0.Text, li .i64 a0.F.a1.N, ls a0.F.a1.Text, li .i64 a0.F.a2.N, ls a0.F.a2.Text, li .i64 a0.F.a3.N, ls a0.F.a3.Text, li .i64 a0.Value.N, ls a0.Value.Text, li .i64 a0.Client, li .i64 a0.Session, li .i64 a0.Rect.X0, li .i64 a0.Rect.Y0, li .i64 a0.Rect.X1, li .i64 a0.Rect.Y1])), (1000002, some (.cells [.fn 64 [.ptr 1000003 0, .ptr 1000004 0]])), (1000003, some (.cells [ls a1])), (1000004, some (.cells [li .i64 r2.2.2]))] (by kernel_rfl) ?_
      refine SimI.run 1 [(11, .one (lb false))] [] (by kernel_rfl) ?_
      refine SimI.done (by kernel_rfl) ?_
      refine SimE.thenN ?_
      refine Sim.seq ?_
      refine Sim.condF (by kernel_rfl) ?_
      refine Sim.exit ?_
      refine SimE.thenX ?_
      refine SimE.loopX ?_
      refine SimE.blockX ?_
      refine SimE.thenN ?_
      refine Sim.seq ?_
      refine Sim.region0 ?_
      refine SimI.run 1 [(3, .one (li .i64 0))] [] (by kernel_rfl) ?_
      refine SimI.done (by kernel_rfl) ?_
      refine SimE.thenN ?_
      refine Sim.ret ?_
      exact SimE.fin (by kernel_rfl)

def F66s7_e (a0 : ByteArray) (a1 : Int) : Unit → PV × List Ob := fun r => (.one (li .i64 0), [.cells [.fn 64 [.ptr 1000001 0, .ptr 1000002 0]], .cells [ls a0], .cells [li .i64 a1]])
def F66s7_l1 (n : Nat) : Nat → Option Unit
  | 0 => none
  | m + 1 =>
    some ()
theorem F66s7_l1_ok (n : Nat) (a0 : ByteArray) (a1 : Int) : ∀ (m : Nat), SimL Try.prog D (n + 8) m pc66_c24 [(1, .one (.ptr 1000000 0)), (8, .one (.view 1 0 fun _ => [])), (9, .one (li .i64 0)), (10, .one (li .i64 0))] [(1000000, some (.cells [.fn 64 [.ptr 1000001 0, .ptr 1000002 0]])), (1000001, some (.cells [ls a0])), (1000002, some (.cells [li .i64 a1]))] (F66s7_l1 n m) (QB 0 (QT Try.prog D (n + 8) pc66_c30 (QF false pc66_r 3 (F66s7_e a0 a1)))) := by
  intro m_l1
  induction m_l1 with
  | zero => exact SimL.zero' rfl
  | succ m_l1 ih_l1 =>
    refine SimL.succ ?_
    unfold F66s7_l1
    refine Sim.seq ?_
    refine Sim.region [(1, .one (.ptr 1000000 0)), (8, .one (.view 1 0 fun _ => [])), (9, .one (li .i64 0)), (10, .one (li .i64 0))] [(1000000, some (.cells [.fn 64 [.ptr 1000001 0, .ptr 1000002 0]])), (1000001, some (.cells [ls a0])), (1000002, some (.cells [li .i64 a1]))] (by kernel_rfl) ?_
    refine SimI.run 1 [(11, .one (lb false))] [] (by kernel_rfl) ?_
    refine SimI.done (by kernel_rfl) ?_
    refine SimE.thenN ?_
    refine Sim.seq ?_
    refine Sim.condF (by kernel_rfl) ?_
    refine Sim.exit ?_
    refine SimE.thenX ?_
    refine SimE.loopX ?_
    refine SimE.blockX ?_
    refine SimE.thenN ?_
    refine Sim.seq ?_
    refine Sim.region0 ?_
    refine SimI.run 1 [(3, .one (li .i64 0))] [] (by kernel_rfl) ?_
    refine SimI.done (by kernel_rfl) ?_
    refine SimE.thenN ?_
    refine Sim.ret ?_
    exact SimE.fin (by kernel_rfl)

def F66s7 (n : Nat) (a0 : ByteArray) (a1 : Int) : Option Unit :=
  F66s7_l1 n (n + 8)
theorem F66s7_ok (n : Nat) (a0 : ByteArray) (a1 : Int) : ∀ r, F66s7 n a0 a1 = some r → D 66 [.one (.view 1 0 fun _ => []), .one (.ptr 1000000 0)] [.cells [.fn 64 [.ptr 1000001 0, .ptr 1000002 0]], .cells [ls a0], .cells [li .i64 a1]] = some ((F66s7_e a0 a1) r) := by
  refine fn_to (D := D) (n := n + 8) (nt := 28) (rs := pc66_r) (c := pc66_c32) (L := [(0, .one (.view 1 0 fun _ => [])), (1, .one (.ptr 1000000 0))]) (M := [(1000000, some (.cells [.fn 64 [.ptr 1000001 0, .ptr 1000002 0]])), (1000001, some (.cells [ls a0])), (1000002, some (.cells [li .i64 a1]))]) (k := 3) rfl rfl rfl rfl rfl rfl rfl ?_
  unfold F66s7
  refine Sim.seq ?_
  refine Sim.region0 ?_
  refine SimI.run 1 [(3, .one (li .i64 0))] [] (by kernel_rfl) ?_
  refine SimI.done (by kernel_rfl) ?_
  refine SimE.thenN ?_
  refine Sim.seq ?_
  refine Sim.seq ?_
  refine Sim.region0 ?_
  refine SimI.run 3 [(10, .one (li .i64 0)), (9, .one (li .i64 0)), (8, .one (.view 1 0 fun _ => []))] [] (by kernel_rfl) ?_
  refine SimI.done (by kernel_rfl) ?_
  refine SimE.thenN ?_
  refine Sim.block ?_
  refine Sim.loop ?_
  refine SimL.pre (ts := [1, 8, 9, 10]) (os := [1000000, 1000001, 1000002, 1000003, 1000004]) (ow := []) [(1, .one (.ptr 1000000 0)), (8, .one (.view 1 0 fun _ => [])), (9, .one (li .i64 0)), (10, .one (li .i64 0))] [(1000000, some (.cells [.fn 64 [.ptr 1000001 0, .ptr 1000002 0]])), (1000001, some (.cells [ls a0])), (1000002, some (.cells [li .i64 a1]))] (by kernel_rfl) (by kernel_rfl) (by kernel_rfl) ?_
  exact F66s7_l1_ok n a0 a1 (n + 8)


-- 67: vedette/num.Texts
def F67_e : (ByteArray × Int × Int) → PV × List Ob := fun r => (.tup [.one (ls r.1), .one (li .i64 r.2.1), .one (li .i64 r.2.2)], [])
def F67 (n : Nat) (a0 : ByteArray) (a1 : Int) : Option (ByteArray × Int × Int) :=
  (F70 n a0).bind fun (r1 : (Int × Int × Int)) =>
  if r1.2.2 != 0 then
    some (ByteArray.empty, 0, r1.2.2)
  else
    if decide (IntKind.wrap .u64 (imax a1 0) < r1.1) then
      some (ByteArray.empty, 0, 13)
    else
      if decide (IntKind.wrap .u64 (IntKind.wrap .i64 ((a0.size : Int) - r1.2.1)) < r1.1) then
        some (ByteArray.empty, 0, 10)
      else
        if 0 ≤ (r1.2.1 : Int) ∧ (r1.2.1 : Int) ≤ IntKind.wrap .i64 (r1.2.1 + IntKind.wrap .i64 r1.1) ∧ IntKind.wrap .i64 (r1.2.1 + IntKind.wrap .i64 r1.1) ≤ (a0.size : Int) then
          some (a0.extract r1.2.1.toNat (IntKind.wrap .i64 (r1.2.1 + IntKind.wrap .i64 r1.1)).toNat, IntKind.wrap .i64 (r1.2.1 + IntKind.wrap .i64 r1.1), 0)
        else none
theorem F67_ok (n : Nat) (a0 : ByteArray) (a1 : Int) : ∀ r, F67 n a0 a1 = some r → D 67 [.one (ls a0), .one (li .i64 a1)] [] = some (F67_e r) := by
  refine fn_to (D := D) (n := n + 8) (nt := 44) (rs := pc67_r) (c := pc67_c30) (L := [(0, .one (ls a0)), (1, .one (li .i64 a1))]) (M := []) (k := 0) rfl rfl rfl rfl rfl rfl rfl ?_
  unfold F67
  refine Sim.seq ?_
  refine Sim.region0 ?_
  refine SimI.run 3 [(6, .one (li .i64 0)), (5, .one (li .i64 0)), (4, .one (ls ByteArray.empty))] [] (by kernel_rfl) ?_
  refine SimI.done (by kernel_rfl) ?_
  refine SimE.thenN ?_
  refine Sim.seq ?_
  refine Sim.region0 ?_
  refine SimI.run 1 [(12, .one (ls a0))] [] (by kernel_rfl) ?_
  refine SimI.bind (og := F70 n a0) { dst := some 13, op := POp.call true [[]] 70 [Operand.tmp 12], guard := none, hints := [] } (fun r1 => [(13, .tup [.one (li .u64 r1.1), .one (li .i64 r1.2.1), .one (li .i64 r1.2.2)])]) (fun r1 => []) (by kernel_rfl) (fun r1 hr => pOp_eff (by kernel_rfl) (by kernel_rfl) (eff_call (ARGS := [.one (ls a0)]) (by kernel_rfl) (args_clean (by kernel_rfl) args_nil) (F70_ok n a0 r1 hr) (by kernel_rfl))) (fun r1 => ?_)
  refine SimI.run 7 [(9, .one (li .i64 r1.2.2)), (8, .one (li .i64 r1.2.1)), (7, .one (li .u64 r1.1)), (16, .one (li .i64 r1.2.2)), (15, .one (li .i64 r1.2.1)), (14, .one (li .u64 r1.1)), (11, .tup [.one (li .u64 r1.1), .one (li .i64 r1.2.1), .one (li .i64 r1.2.2)])] [] (by kernel_rfl) ?_
  refine SimI.done (by kernel_rfl) ?_
  refine SimE.thenN ?_
  refine Sim.seq ?_
  refine Sim.block ?_
  refine Sim.seq ?_
  refine Sim.region0 ?_
  refine SimI.run 3 [(17, .one (lb (r1.2.2 != 0))), (19, .one (lb (r1.2.2 != 0))), (18, .one (li .i64 r1.2.2))] [] (by kernel_rfl) ?_
  refine SimI.done (by kernel_rfl) ?_
  refine SimE.thenN ?_
  refine Sim.cond (r1.2.2 != 0) (by kernel_rfl) ?_ ?_
  · refine Sim.seq ?_
    refine Sim.region0 ?_
    refine SimI.run 4 [(6, .one (li .i64 r1.2.2)), (5, .one (li .i64 0)), (4, .one (ls ByteArray.empty)), (20, .one (li .i64 r1.2.2))] [] (by kernel_rfl) ?_
    refine SimI.done (by kernel_rfl) ?_
    refine SimE.thenN ?_
    refine Sim.ret ?_
    refine SimE.blockR ?_
    refine SimE.thenR ?_
    exact SimE.fin (by kernel_rfl)
  · refine Sim.seq ?_
    refine Sim.region0 ?_
    refine SimI.run 6 [(21, .one (lb (decide (IntKind.wrap .u64 (imax a1 0) < r1.1)))), (26, .one (lb (decide (IntKind.wrap .u64 (imax a1 0) < r1.1)))), (25, .one (li .u64 (IntKind.wrap .u64 (imax a1 0)))), (24, .one (li .i64 (imax a1 0))), (23, .one (li .i64 a1)), (22, .one (li .u64 r1.1))] [] (by kernel_rfl) ?_
    refine SimI.done (by kernel_rfl) ?_
    refine SimE.thenN ?_
    refine Sim.cond (decide (IntKind.wrap .u64 (imax a1 0) < r1.1)) (by kernel_rfl) ?_ ?_
    · refine Sim.seq ?_
      refine Sim.region0 ?_
      refine SimI.run 3 [(6, .one (li .i64 13)), (5, .one (li .i64 0)), (4, .one (ls ByteArray.empty))] [] (by kernel_rfl) ?_
      refine SimI.done (by kernel_rfl) ?_
      refine SimE.thenN ?_
      refine Sim.ret ?_
      refine SimE.blockR ?_
      refine SimE.thenR ?_
      exact SimE.fin (by kernel_rfl)
    · refine Sim.seq ?_
      refine Sim.region0 ?_
      refine SimI.run 8 [(27, .one (lb (decide (IntKind.wrap .u64 (IntKind.wrap .i64 ((a0.size : Int) - r1.2.1)) < r1.1)))), (34, .one (lb (decide (IntKind.wrap .u64 (IntKind.wrap .i64 ((a0.size : Int) - r1.2.1)) < r1.1)))), (33, .one (li .u64 (IntKind.wrap .u64 (IntKind.wrap .i64 ((a0.size : Int) - r1.2.1))))), (32, .one (li .i64 (IntKind.wrap .i64 ((a0.size : Int) - r1.2.1)))), (31, .one (li .i64 r1.2.1)), (30, .one (li .i64 (a0.size : Int))), (29, .one (ls a0)), (28, .one (li .u64 r1.1))] [] (by kernel_rfl) ?_
      refine SimI.done (by kernel_rfl) ?_
      refine SimE.thenN ?_
      refine Sim.cond (decide (IntKind.wrap .u64 (IntKind.wrap .i64 ((a0.size : Int) - r1.2.1)) < r1.1)) (by kernel_rfl) ?_ ?_
      · refine Sim.seq ?_
        refine Sim.region0 ?_
        refine SimI.run 3 [(6, .one (li .i64 10)), (5, .one (li .i64 0)), (4, .one (ls ByteArray.empty))] [] (by kernel_rfl) ?_
        refine SimI.done (by kernel_rfl) ?_
        refine SimE.thenN ?_
        refine Sim.ret ?_
        refine SimE.blockR ?_
        refine SimE.thenR ?_
        exact SimE.fin (by kernel_rfl)
      · refine Sim.skip ?_
        refine SimE.blockN ?_
        refine SimE.thenN ?_
        refine Sim.seq ?_
        refine Sim.region0 ?_
        refine SimI.run 5 [(10, .one (li .i64 (IntKind.wrap .i64 (r1.2.1 + IntKind.wrap .i64 r1.1)))), (38, .one (li .i64 (IntKind.wrap .i64 (r1.2.1 + IntKind.wrap .i64 r1.1)))), (37, .one (li .i64 (IntKind.wrap .i64 r1.1))), (36, .one (li .u64 r1.1)), (35, .one (li .i64 r1.2.1))] [] (by kernel_rfl) ?_
        refine SimI.done (by kernel_rfl) ?_
        refine SimE.thenN ?_
        refine Sim.seq ?_
        refine Sim.region0 ?_
        refine SimI.run 3 [(41, .one (li .i64 (IntKind.wrap .i64 (r1.2.1 + IntKind.wrap .i64 r1.1)))), (40, .one (li .i64 r1.2.1)), (39, .one (ls a0))] [] (by kernel_rfl) ?_
        refine SimI.guard (c := 0 ≤ (r1.2.1 : Int) ∧ (r1.2.1 : Int) ≤ IntKind.wrap .i64 (r1.2.1 + IntKind.wrap .i64 r1.1) ∧ IntKind.wrap .i64 (r1.2.1 + IntKind.wrap .i64 r1.1) ≤ (a0.size : Int)) { dst := some 42, op := POp.prim (Prim.slice 9 true true) [Operand.tmp 39, Operand.tmp 40, Operand.tmp 41], guard := none, hints := [] } [(42, .one (ls (a0.extract r1.2.1.toNat (IntKind.wrap .i64 (r1.2.1 + IntKind.wrap .i64 r1.1)).toNat)))] [] (by kernel_rfl) (fun hc => pOp_eff (by kernel_rfl) (by kernel_rfl) (eff_prim (by kernel_rfl) (pr_cutS (s := a0) (k := .i64) (l := .i64) (a := r1.2.1) (b := IntKind.wrap .i64 (r1.2.1 + IntKind.wrap .i64 r1.1)) Try.underlying9 hc))) ?_
        refine SimI.run 4 [(6, .one (li .i64 0)), (5, .one (li .i64 (IntKind.wrap .i64 (r1.2.1 + IntKind.wrap .i64 r1.1)))), (4, .one (ls (a0.extract r1.2.1.toNat (IntKind.wrap .i64 (r1.2.1 + IntKind.wrap .i64 r1.1)).toNat))), (43, .one (li .i64 (IntKind.wrap .i64 (r1.2.1 + IntKind.wrap .i64 r1.1))))] [] (by kernel_rfl) ?_
        refine SimI.done (by kernel_rfl) ?_
        refine SimE.thenN ?_
        refine Sim.ret ?_
        exact SimE.fin (by kernel_rfl)


-- 40: vedette/cmd.Read
def F40_e : (Command × Int × Int) → PV × List Ob := fun r => (.tup [.agg (Command.cells r.1), .one (li .i64 r.2.1), .one (li .i64 r.2.2)], [])
def F40_j47 (n : Nat) (a0 : ByteArray) (g45 : Command) (i46 : Int) : Option (Command × Int × Int) :=
    (F34 n g45).bind fun (r48 : (ByteArray × Int)) =>
    if r48.2 != 0 then
      some ((Command.mk 0 0 0 0 (Point.mk 0 0) (A4.mk (Field.mk 0 ByteArray.empty) (Field.mk 0 ByteArray.empty) (Field.mk 0 ByteArray.empty) (Field.mk 0 ByteArray.empty)) (Field.mk 0 ByteArray.empty) 0 0 (Rect.mk 0 0 0 0)), 0, 11)
    else
      if 0 ≤ (i46 : Int) ∧ (i46 : Int) ≤ (a0.size : Int) then
        if !(r48.1.toList == (a0.extract 0 i46.toNat).toList) then
          some ((Command.mk 0 0 0 0 (Point.mk 0 0) (A4.mk (Field.mk 0 ByteArray.empty) (Field.mk 0 ByteArray.empty) (Field.mk 0 ByteArray.empty) (Field.mk 0 ByteArray.empty)) (Field.mk 0 ByteArray.empty) 0 0 (Rect.mk 0 0 0 0)), 0, 11)
        else
          some (g45, i46, 0)
      else none
theorem F40_j47_ok (n : Nat) (a0 : ByteArray) (g45 : Command) (i46 : Int) : Sim Try.prog D (n + 8) pc40_c70 [(1, .one (.ptr 1 0)), (2, .one (.ptr 2 0)), (5, .one (.ptr 5 0)), (6, .one (.ptr 6 0))] [(1, some (.cells [ls a0])), (2, some (.cells [li .i64 0, li .i64 0, li .i64 0, li .i64 0, li .i64 0, li .i64 0, li .i64 0, ls ByteArray.empty, li .i64 0, ls ByteArray.empty, li .i64 0, ls ByteArray.empty, li .i64 0, ls ByteArray.empty, li .i64 0, ls ByteArray.empty, li .i64 0, li .i64 0, li .i64 0, li .i64 0, li .i64 0, li .i64 0])), (5, some (.cells (Command.cells g45))), (6, some (.cells [li .i64 i46]))] (F40_j47 n a0 g45 i46) (QF false pc40_r 0 F40_e) := by
    unfold F40_j47
    refine Sim.seq ?_
    refine Sim.seq ?_
    refine Sim.region [(1, .one (.ptr 1 0)), (2, .one (.ptr 2 0)), (5, .one (.ptr 5 0)), (6, .one (.ptr 6 0))] [(1, some (.cells [ls a0])), (2, some (.cells [li .i64 0, li .i64 0, li .i64 0, li .i64 0, li .i64 0, li .i64 0, li .i64 0, ls ByteArray.empty, li .i64 0, ls ByteArray.empty, li .i64 0, ls ByteArray.empty, li .i64 0, ls ByteArray.empty, li .i64 0, ls ByteArray.empty, li .i64 0, li .i64 0, li .i64 0, li .i64 0, li .i64 0, li .i64 0])), (5, some (.cells (Command.cells g45))), (6, some (.cells [li .i64 i46]))] (by kernel_rfl) ?_
    refine SimI.run 1 [(74, .agg (Command.cells g45))] [] (by kernel_rfl) ?_
    refine SimI.bind (og := F34 n g45) { dst := some 75, op := POp.call true [[]] 34 [Operand.tmp 74], guard := none, hints := [] } (fun r48 => [(75, .tup [.one (ls r48.1), .one (li .i64 r48.2)])]) (fun r48 => []) (by kernel_rfl) (fun r48 hr => pOp_eff (by kernel_rfl) (by kernel_rfl) (eff_call (ARGS := [.agg (Command.cells g45)]) (by kernel_rfl) (args_clean (by kernel_rfl) args_nil) (F34_ok n g45 r48 hr) (by kernel_rfl))) (fun r48 => ?_)
    refine SimI.run 5 [(17, .one (li .i64 r48.2)), (16, .one (ls r48.1)), (77, .one (li .i64 r48.2)), (76, .one (ls r48.1)), (73, .tup [.one (ls r48.1), .one (li .i64 r48.2)])] [] (by kernel_rfl) ?_
    refine SimI.done (by kernel_rfl) ?_
    refine SimE.thenN ?_
    refine Sim.seq ?_
    refine Sim.region0 ?_
    refine SimI.run 3 [(80, .one (lb (r48.2 != 0))), (79, .one (lb (r48.2 != 0))), (78, .one (li .i64 r48.2))] [] (by kernel_rfl) ?_
    refine SimI.split 80 (r48.2 != 0) (by kernel_rfl) ?_ ?_
    · refine SimI.run 6 [(86, .one (lb true)), (85, .tup []), (84, .tup []), (83, .tup []), (82, .tup []), (81, .tup [])] [] (by kernel_rfl) ?_
      refine SimI.done (by kernel_rfl) ?_
      refine SimE.thenN ?_
      refine Sim.condT (by kernel_rfl) ?_
      refine Sim.seq ?_
      refine Sim.region0 ?_
      refine SimI.run 4 [(4, .one (li .i64 11)), (3, .one (li .i64 0)), (87, .agg [li .i64 0, li .i64 0, li .i64 0, li .i64 0, li .i64 0, li .i64 0, li .i64 0, ls ByteArray.empty, li .i64 0, ls ByteArray.empty, li .i64 0, ls ByteArray.empty, li .i64 0, ls ByteArray.empty, li .i64 0, ls ByteArray.empty, li .i64 0, li .i64 0, li .i64 0, li .i64 0, li .i64 0, li .i64 0])] [(2, some (.cells [li .i64 0, li .i64 0, li .i64 0, li .i64 0, li .i64 0, li .i64 0, li .i64 0, ls ByteArray.empty, li .i64 0, ls ByteArray.empty, li .i64 0, ls ByteArray.empty, li .i64 0, ls ByteArray.empty, li .i64 0, ls ByteArray.empty, li .i64 0, li .i64 0, li .i64 0, li .i64 0, li .i64 0, li .i64 0]))] (by kernel_rfl) ?_
      refine SimI.done (by kernel_rfl) ?_
      refine SimE.thenN ?_
      refine Sim.ret ?_
      refine SimE.thenR ?_
      exact SimE.fin (by kernel_rfl)
    · refine SimI.run 3 [(83, .one (li .i64 i46)), (82, .one (ls a0)), (81, .one (ls r48.1))] [] (by kernel_rfl) ?_
      refine SimI.guard (c := 0 ≤ (i46 : Int) ∧ (i46 : Int) ≤ (a0.size : Int)) { dst := some 84, op := POp.prim (Prim.slice 9 false true) [Operand.tmp 82, Operand.tmp 83], guard := some (80, false), hints := [] } [(84, .one (ls (a0.extract 0 i46.toNat)))] [] (by kernel_rfl) (fun hc => pOp_eff (by kernel_rfl) (by kernel_rfl) (eff_prim (by kernel_rfl) (pr_cutH (s := a0) (l := .i64) (b := i46) Try.underlying9 hc))) ?_
      refine SimI.run 2 [(86, .one (lb (!(r48.1.toList == (a0.extract 0 i46.toNat).toList)))), (85, .one (lb (!(r48.1.toList == (a0.extract 0 i46.toNat).toList))))] [] (by kernel_rfl) ?_
      refine SimI.done (by kernel_rfl) ?_
      refine SimE.thenN ?_
      refine Sim.cond (!(r48.1.toList == (a0.extract 0 i46.toNat).toList)) (by kernel_rfl) ?_ ?_
      · refine Sim.seq ?_
        refine Sim.region0 ?_
        refine SimI.run 4 [(4, .one (li .i64 11)), (3, .one (li .i64 0)), (87, .agg [li .i64 0, li .i64 0, li .i64 0, li .i64 0, li .i64 0, li .i64 0, li .i64 0, ls ByteArray.empty, li .i64 0, ls ByteArray.empty, li .i64 0, ls ByteArray.empty, li .i64 0, ls ByteArray.empty, li .i64 0, ls ByteArray.empty, li .i64 0, li .i64 0, li .i64 0, li .i64 0, li .i64 0, li .i64 0])] [(2, some (.cells [li .i64 0, li .i64 0, li .i64 0, li .i64 0, li .i64 0, li .i64 0, li .i64 0, ls ByteArray.empty, li .i64 0, ls ByteArray.empty, li .i64 0, ls ByteArray.empty, li .i64 0, ls ByteArray.empty, li .i64 0, ls ByteArray.empty, li .i64 0, li .i64 0, li .i64 0, li .i64 0, li .i64 0, li .i64 0]))] (by kernel_rfl) ?_
        refine SimI.done (by kernel_rfl) ?_
        refine SimE.thenN ?_
        refine Sim.ret ?_
        refine SimE.thenR ?_
        exact SimE.fin (by kernel_rfl)
      · refine Sim.skip ?_
        refine SimE.thenN ?_
        refine Sim.seq ?_
        refine Sim.region0 ?_
        refine SimI.run 5 [(4, .one (li .i64 0)), (3, .one (li .i64 i46)), (89, .one (li .i64 i46)), (88, .agg (Command.cells g45))] [(2, some (.cells (Command.cells g45)))] (by kernel_rfl) ?_
        refine SimI.done (by kernel_rfl) ?_
        refine SimE.thenN ?_
        refine Sim.ret ?_
        exact SimE.fin (by kernel_rfl)

def F40_j20 (n : Nat) (a0 : ByteArray) (g17 : Command) (i18 : Int) (i19 : Int) : Option (Command × Int × Int) :=
    if i18 != 0 then
      some ((Command.mk 0 0 0 0 (Point.mk 0 0) (A4.mk (Field.mk 0 ByteArray.empty) (Field.mk 0 ByteArray.empty) (Field.mk 0 ByteArray.empty) (Field.mk 0 ByteArray.empty)) (Field.mk 0 ByteArray.empty) 0 0 (Rect.mk 0 0 0 0)), 0, i18)
    else
      F40_j47 n a0 g17 i19
theorem F40_j20_ok (n : Nat) (a0 : ByteArray) (g17 : Command) (i18 : Int) (i19 : Int) : Sim Try.prog D (n + 8) pc40_c45 [(1, .one (.ptr 1 0)), (2, .one (.ptr 2 0)), (5, .one (.ptr 5 0)), (6, .one (.ptr 6 0)), (7, .one (.ptr 7 0)), (15, .one (li .i64 i18)), (37, .one (.csl 300000 1 0 1)), (38, .one (li .i64 1)), (39, .one (li .i64 0))] [(1, some (.cells [ls a0])), (2, some (.cells [li .i64 0, li .i64 0, li .i64 0, li .i64 0, li .i64 0, li .i64 0, li .i64 0, ls ByteArray.empty, li .i64 0, ls ByteArray.empty, li .i64 0, ls ByteArray.empty, li .i64 0, ls ByteArray.empty, li .i64 0, ls ByteArray.empty, li .i64 0, li .i64 0, li .i64 0, li .i64 0, li .i64 0, li .i64 0])), (5, some (.cells (Command.cells g17))), (6, some (.cells [li .i64 i19])), (7, some (.cells [.fn 64 [.ptr 1 0, .ptr 6 0]])), (300000, some (.cells [.ptr 5 14]))] (F40_j20 n a0 g17 i18 i19) (QB 1 (QT Try.prog D (n + 8) pc40_c51 (QL Try.prog D (n + 8) (n + 7) pc40_c54 (QB 0 (QT Try.prog D (n + 8) pc40_c70 (QF false pc40_r 0 F40_e)))))) := by
    unfold F40_j20
    refine Sim.seq ?_
    refine Sim.region [(1, .one (.ptr 1 0)), (2, .one (.ptr 2 0)), (5, .one (.ptr 5 0)), (6, .one (.ptr 6 0)), (7, .one (.ptr 7 0)), (15, .one (li .i64 i18)), (37, .one (.csl 300000 1 0 1)), (38, .one (li .i64 1)), (39, .one (li .i64 0))] [(1, some (.cells [ls a0])), (2, some (.cells [li .i64 0, li .i64 0, li .i64 0, li .i64 0, li .i64 0, li .i64 0, li .i64 0, ls ByteArray.empty, li .i64 0, ls ByteArray.empty, li .i64 0, ls ByteArray.empty, li .i64 0, ls ByteArray.empty, li .i64 0, ls ByteArray.empty, li .i64 0, li .i64 0, li .i64 0, li .i64 0, li .i64 0, li .i64 0])), (5, some (.cells (Command.cells g17))), (6, some (.cells [li .i64 i19])), (7, some (.cells [.fn 64 [.ptr 1 0, .ptr 6 0]])), (300000, some (.cells [.ptr 5 14]))] (by kernel_rfl) ?_
    refine SimI.run 2 [(69, .one (lb (i18 != 0))), (68, .one (li .i64 i18))] [] (by kernel_rfl) ?_
    refine SimI.done (by kernel_rfl) ?_
    refine SimE.thenN ?_
    refine Sim.cond (i18 != 0) (by kernel_rfl) ?_ ?_
    · refine Sim.seq ?_
      refine Sim.region0 ?_
      refine SimI.run 5 [(4, .one (li .i64 i18)), (3, .one (li .i64 0)), (71, .one (li .i64 i18)), (70, .agg [li .i64 0, li .i64 0, li .i64 0, li .i64 0, li .i64 0, li .i64 0, li .i64 0, ls ByteArray.empty, li .i64 0, ls ByteArray.empty, li .i64 0, ls ByteArray.empty, li .i64 0, ls ByteArray.empty, li .i64 0, ls ByteArray.empty, li .i64 0, li .i64 0, li .i64 0, li .i64 0, li .i64 0, li .i64 0])] [(2, some (.cells [li .i64 0, li .i64 0, li .i64 0, li .i64 0, li .i64 0, li .i64 0, li .i64 0, ls ByteArray.empty, li .i64 0, ls ByteArray.empty, li .i64 0, ls ByteArray.empty, li .i64 0, ls ByteArray.empty, li .i64 0, ls ByteArray.empty, li .i64 0, li .i64 0, li .i64 0, li .i64 0, li .i64 0, li .i64 0]))] (by kernel_rfl) ?_
      refine SimI.done (by kernel_rfl) ?_
      refine SimE.thenN ?_
      refine Sim.ret ?_
      refine SimE.blockR ?_
      refine SimE.thenR ?_
      refine SimE.loopR ?_
      refine SimE.blockR ?_
      refine SimE.thenR ?_
      exact SimE.fin (by kernel_rfl)
    · refine Sim.skip ?_
      refine SimE.blockN ?_
      refine SimE.thenN ?_
      refine Sim.region0 ?_
      refine SimI.run 2 [(39, .one (li .i64 1)), (72, .one (li .i64 1))] [] (by kernel_rfl) ?_
      refine SimI.done (by kernel_rfl) ?_
      refine SimE.loopN ?_
      refine SimL.succ ?_
      refine Sim.seq ?_
      refine Sim.region [(1, .one (.ptr 1 0)), (2, .one (.ptr 2 0)), (5, .one (.ptr 5 0)), (6, .one (.ptr 6 0)), (7, .one (.ptr 7 0)), (37, .one (.csl 300000 1 0 1)), (38, .one (li .i64 1)), (39, .one (li .i64 1))] [(1, some (.cells [ls a0])), (2, some (.cells [li .i64 0, li .i64 0, li .i64 0, li .i64 0, li .i64 0, li .i64 0, li .i64 0, ls ByteArray.empty, li .i64 0, ls ByteArray.empty, li .i64 0, ls ByteArray.empty, li .i64 0, ls ByteArray.empty, li .i64 0, ls ByteArray.empty, li .i64 0, li .i64 0, li .i64 0, li .i64 0, li .i64 0, li .i64 0])), (5, some (.cells (Command.cells g17))), (6, some (.cells [li .i64 i19])), (7, some (.cells [.fn 64 [.ptr 1 0, .ptr 6 0]])), (300000, some (.cells [.ptr 5 14]))] (by kernel_rfl) ?_
      refine SimI.run 1 [(40, .one (lb false))] [] (by kernel_rfl) ?_
      refine SimI.done (by kernel_rfl) ?_
      refine SimE.thenN ?_
      refine Sim.seq ?_
      refine Sim.condF (by kernel_rfl) ?_
      refine Sim.exit ?_
      refine SimE.thenX ?_
      refine SimE.loopX ?_
      refine SimE.blockX ?_
      refine SimE.thenN ?_
      refine Sim.pre (ts := [1, 2, 5, 6]) (os := [1, 2, 5, 6, 7, 300000]) (ow := []) [(1, .one (.ptr 1 0)), (2, .one (.ptr 2 0)), (5, .one (.ptr 5 0)), (6, .one (.ptr 6 0))] [(1, some (.cells [ls a0])), (2, some (.cells [li .i64 0, li .i64 0, li .i64 0, li .i64 0, li .i64 0, li .i64 0, li .i64 0, ls ByteArray.empty, li .i64 0, ls ByteArray.empty, li .i64 0, ls ByteArray.empty, li .i64 0, ls ByteArray.empty, li .i64 0, ls ByteArray.empty, li .i64 0, li .i64 0, li .i64 0, li .i64 0, li .i64 0, li .i64 0])), (5, some (.cells (Command.cells g17))), (6, some (.cells [li .i64 i19]))] (by kernel_rfl) (by kernel_rfl) (by kernel_rfl) ?_
      exact F40_j47_ok n a0 g17 i19

def F40_j44 (n : Nat) (a0 : ByteArray) (g41 : Command) (i42 : Int) (i43 : Int) : Option (Command × Int × Int) :=
    if i42 != 0 then
      some ((Command.mk 0 0 0 0 (Point.mk 0 0) (A4.mk (Field.mk 0 ByteArray.empty) (Field.mk 0 ByteArray.empty) (Field.mk 0 ByteArray.empty) (Field.mk 0 ByteArray.empty)) (Field.mk 0 ByteArray.empty) 0 0 (Rect.mk 0 0 0 0)), 0, i42)
    else
      F40_j47 n a0 g41 i43
theorem F40_j44_ok (n : Nat) (a0 : ByteArray) (g41 : Command) (i42 : Int) (i43 : Int) : Sim Try.prog D (n + 8) pc40_c45 [(1, .one (.ptr 1 0)), (2, .one (.ptr 2 0)), (5, .one (.ptr 5 0)), (6, .one (.ptr 6 0)), (7, .one (.ptr 7 0)), (15, .one (li .i64 i42)), (37, .one (.csl 300000 1 0 4)), (38, .one (li .i64 4)), (39, .one (li .i64 3))] [(1, some (.cells [ls a0])), (2, some (.cells [li .i64 0, li .i64 0, li .i64 0, li .i64 0, li .i64 0, li .i64 0, li .i64 0, ls ByteArray.empty, li .i64 0, ls ByteArray.empty, li .i64 0, ls ByteArray.empty, li .i64 0, ls ByteArray.empty, li .i64 0, ls ByteArray.empty, li .i64 0, li .i64 0, li .i64 0, li .i64 0, li .i64 0, li .i64 0])), (5, some (.cells (Command.cells g41))), (6, some (.cells [li .i64 i43])), (7, some (.cells [.fn 64 [.ptr 1 0, .ptr 6 0]])), (300000, some (.cells [.ptr 5 6, .ptr 5 8, .ptr 5 10, .ptr 5 12]))] (F40_j44 n a0 g41 i42 i43) (QB 1 (QT Try.prog D (n + 8) pc40_c51 (QL Try.prog D (n + 8) (n + 4) pc40_c54 (QB 0 (QT Try.prog D (n + 8) pc40_c70 (QF false pc40_r 0 F40_e)))))) := by
    unfold F40_j44
    refine Sim.seq ?_
    refine Sim.region [(1, .one (.ptr 1 0)), (2, .one (.ptr 2 0)), (5, .one (.ptr 5 0)), (6, .one (.ptr 6 0)), (7, .one (.ptr 7 0)), (15, .one (li .i64 i42)), (37, .one (.csl 300000 1 0 4)), (38, .one (li .i64 4)), (39, .one (li .i64 3))] [(1, some (.cells [ls a0])), (2, some (.cells [li .i64 0, li .i64 0, li .i64 0, li .i64 0, li .i64 0, li .i64 0, li .i64 0, ls ByteArray.empty, li .i64 0, ls ByteArray.empty, li .i64 0, ls ByteArray.empty, li .i64 0, ls ByteArray.empty, li .i64 0, ls ByteArray.empty, li .i64 0, li .i64 0, li .i64 0, li .i64 0, li .i64 0, li .i64 0])), (5, some (.cells (Command.cells g41))), (6, some (.cells [li .i64 i43])), (7, some (.cells [.fn 64 [.ptr 1 0, .ptr 6 0]])), (300000, some (.cells [.ptr 5 6, .ptr 5 8, .ptr 5 10, .ptr 5 12]))] (by kernel_rfl) ?_
    refine SimI.run 2 [(69, .one (lb (i42 != 0))), (68, .one (li .i64 i42))] [] (by kernel_rfl) ?_
    refine SimI.done (by kernel_rfl) ?_
    refine SimE.thenN ?_
    refine Sim.cond (i42 != 0) (by kernel_rfl) ?_ ?_
    · refine Sim.seq ?_
      refine Sim.region0 ?_
      refine SimI.run 5 [(4, .one (li .i64 i42)), (3, .one (li .i64 0)), (71, .one (li .i64 i42)), (70, .agg [li .i64 0, li .i64 0, li .i64 0, li .i64 0, li .i64 0, li .i64 0, li .i64 0, ls ByteArray.empty, li .i64 0, ls ByteArray.empty, li .i64 0, ls ByteArray.empty, li .i64 0, ls ByteArray.empty, li .i64 0, ls ByteArray.empty, li .i64 0, li .i64 0, li .i64 0, li .i64 0, li .i64 0, li .i64 0])] [(2, some (.cells [li .i64 0, li .i64 0, li .i64 0, li .i64 0, li .i64 0, li .i64 0, li .i64 0, ls ByteArray.empty, li .i64 0, ls ByteArray.empty, li .i64 0, ls ByteArray.empty, li .i64 0, ls ByteArray.empty, li .i64 0, ls ByteArray.empty, li .i64 0, li .i64 0, li .i64 0, li .i64 0, li .i64 0, li .i64 0]))] (by kernel_rfl) ?_
      refine SimI.done (by kernel_rfl) ?_
      refine SimE.thenN ?_
      refine Sim.ret ?_
      refine SimE.blockR ?_
      refine SimE.thenR ?_
      refine SimE.loopR ?_
      refine SimE.blockR ?_
      refine SimE.thenR ?_
      exact SimE.fin (by kernel_rfl)
    · refine Sim.skip ?_
      refine SimE.blockN ?_
      refine SimE.thenN ?_
      refine Sim.region0 ?_
      refine SimI.run 2 [(39, .one (li .i64 4)), (72, .one (li .i64 4))] [] (by kernel_rfl) ?_
      refine SimI.done (by kernel_rfl) ?_
      refine SimE.loopN ?_
      refine SimL.succ ?_
      refine Sim.seq ?_
      refine Sim.region [(1, .one (.ptr 1 0)), (2, .one (.ptr 2 0)), (5, .one (.ptr 5 0)), (6, .one (.ptr 6 0)), (7, .one (.ptr 7 0)), (37, .one (.csl 300000 1 0 4)), (38, .one (li .i64 4)), (39, .one (li .i64 4))] [(1, some (.cells [ls a0])), (2, some (.cells [li .i64 0, li .i64 0, li .i64 0, li .i64 0, li .i64 0, li .i64 0, li .i64 0, ls ByteArray.empty, li .i64 0, ls ByteArray.empty, li .i64 0, ls ByteArray.empty, li .i64 0, ls ByteArray.empty, li .i64 0, ls ByteArray.empty, li .i64 0, li .i64 0, li .i64 0, li .i64 0, li .i64 0, li .i64 0])), (5, some (.cells (Command.cells g41))), (6, some (.cells [li .i64 i43])), (7, some (.cells [.fn 64 [.ptr 1 0, .ptr 6 0]])), (300000, some (.cells [.ptr 5 6, .ptr 5 8, .ptr 5 10, .ptr 5 12]))] (by kernel_rfl) ?_
      refine SimI.run 1 [(40, .one (lb false))] [] (by kernel_rfl) ?_
      refine SimI.done (by kernel_rfl) ?_
      refine SimE.thenN ?_
      refine Sim.seq ?_
      refine Sim.condF (by kernel_rfl) ?_
      refine Sim.exit ?_
      refine SimE.thenX ?_
      refine SimE.loopX ?_
      refine SimE.blockX ?_
      refine SimE.thenN ?_
      refine Sim.pre (ts := [1, 2, 5, 6]) (os := [1, 2, 5, 6, 7, 300000]) (ow := []) [(1, .one (.ptr 1 0)), (2, .one (.ptr 2 0)), (5, .one (.ptr 5 0)), (6, .one (.ptr 6 0))] [(1, some (.cells [ls a0])), (2, some (.cells [li .i64 0, li .i64 0, li .i64 0, li .i64 0, li .i64 0, li .i64 0, li .i64 0, ls ByteArray.empty, li .i64 0, ls ByteArray.empty, li .i64 0, ls ByteArray.empty, li .i64 0, ls ByteArray.empty, li .i64 0, ls ByteArray.empty, li .i64 0, li .i64 0, li .i64 0, li .i64 0, li .i64 0, li .i64 0])), (5, some (.cells (Command.cells g41))), (6, some (.cells [li .i64 i43]))] (by kernel_rfl) (by kernel_rfl) (by kernel_rfl) ?_
      exact F40_j47_ok n a0 g41 i43

def F40_j38 (n : Nat) (a0 : ByteArray) (g35 : Command) (i36 : Int) (i37 : Int) : Option (Command × Int × Int) :=
    if i36 != 0 then
      some ((Command.mk 0 0 0 0 (Point.mk 0 0) (A4.mk (Field.mk 0 ByteArray.empty) (Field.mk 0 ByteArray.empty) (Field.mk 0 ByteArray.empty) (Field.mk 0 ByteArray.empty)) (Field.mk 0 ByteArray.empty) 0 0 (Rect.mk 0 0 0 0)), 0, i36)
    else
      if 0 ≤ (i37 : Int) ∧ (i37 : Int) ≤ (a0.size : Int) then
        (F67 n (a0.extract i37.toNat a0.size) 12).bind fun (r39 : (ByteArray × Int × Int)) =>
        if r39.2.2 == 0 then
          (F64s0 n a0 (IntKind.wrap .i64 (i37 + r39.2.1))).bind fun (r40 : (Int × Int × Int)) =>
          F40_j44 n a0 (Command.mk g35.Kind g35.ID g35.Which g35.To g35.At (A4.mk g35.F.a0 g35.F.a1 g35.F.a2 (Field.mk r40.1 r39.1)) g35.Value g35.Client g35.Session g35.Rect) r40.2.1 r40.2.2
        else
          F40_j44 n a0 g35 r39.2.2 (IntKind.wrap .i64 (i37 + r39.2.1))
      else none
theorem F40_j38_ok (n : Nat) (a0 : ByteArray) (g35 : Command) (i36 : Int) (i37 : Int) : Sim Try.prog D (n + 8) pc40_c45 [(1, .one (.ptr 1 0)), (2, .one (.ptr 2 0)), (5, .one (.ptr 5 0)), (6, .one (.ptr 6 0)), (7, .one (.ptr 7 0)), (15, .one (li .i64 i36)), (37, .one (.csl 300000 1 0 4)), (38, .one (li .i64 4)), (39, .one (li .i64 2))] [(1, some (.cells [ls a0])), (2, some (.cells [li .i64 0, li .i64 0, li .i64 0, li .i64 0, li .i64 0, li .i64 0, li .i64 0, ls ByteArray.empty, li .i64 0, ls ByteArray.empty, li .i64 0, ls ByteArray.empty, li .i64 0, ls ByteArray.empty, li .i64 0, ls ByteArray.empty, li .i64 0, li .i64 0, li .i64 0, li .i64 0, li .i64 0, li .i64 0])), (5, some (.cells (Command.cells g35))), (6, some (.cells [li .i64 i37])), (7, some (.cells [.fn 64 [.ptr 1 0, .ptr 6 0]])), (300000, some (.cells [.ptr 5 6, .ptr 5 8, .ptr 5 10, .ptr 5 12]))] (F40_j38 n a0 g35 i36 i37) (QB 1 (QT Try.prog D (n + 8) pc40_c51 (QL Try.prog D (n + 8) (n + 5) pc40_c54 (QB 0 (QT Try.prog D (n + 8) pc40_c70 (QF false pc40_r 0 F40_e)))))) := by
    unfold F40_j38
    refine Sim.seq ?_
    refine Sim.region [(1, .one (.ptr 1 0)), (2, .one (.ptr 2 0)), (5, .one (.ptr 5 0)), (6, .one (.ptr 6 0)), (7, .one (.ptr 7 0)), (15, .one (li .i64 i36)), (37, .one (.csl 300000 1 0 4)), (38, .one (li .i64 4)), (39, .one (li .i64 2))] [(1, some (.cells [ls a0])), (2, some (.cells [li .i64 0, li .i64 0, li .i64 0, li .i64 0, li .i64 0, li .i64 0, li .i64 0, ls ByteArray.empty, li .i64 0, ls ByteArray.empty, li .i64 0, ls ByteArray.empty, li .i64 0, ls ByteArray.empty, li .i64 0, ls ByteArray.empty, li .i64 0, li .i64 0, li .i64 0, li .i64 0, li .i64 0, li .i64 0])), (5, some (.cells (Command.cells g35))), (6, some (.cells [li .i64 i37])), (7, some (.cells [.fn 64 [.ptr 1 0, .ptr 6 0]])), (300000, some (.cells [.ptr 5 6, .ptr 5 8, .ptr 5 10, .ptr 5 12]))] (by kernel_rfl) ?_
    refine SimI.run 2 [(69, .one (lb (i36 != 0))), (68, .one (li .i64 i36))] [] (by kernel_rfl) ?_
    refine SimI.done (by kernel_rfl) ?_
    refine SimE.thenN ?_
    refine Sim.cond (i36 != 0) (by kernel_rfl) ?_ ?_
    · refine Sim.seq ?_
      refine Sim.region0 ?_
      refine SimI.run 5 [(4, .one (li .i64 i36)), (3, .one (li .i64 0)), (71, .one (li .i64 i36)), (70, .agg [li .i64 0, li .i64 0, li .i64 0, li .i64 0, li .i64 0, li .i64 0, li .i64 0, ls ByteArray.empty, li .i64 0, ls ByteArray.empty, li .i64 0, ls ByteArray.empty, li .i64 0, ls ByteArray.empty, li .i64 0, ls ByteArray.empty, li .i64 0, li .i64 0, li .i64 0, li .i64 0, li .i64 0, li .i64 0])] [(2, some (.cells [li .i64 0, li .i64 0, li .i64 0, li .i64 0, li .i64 0, li .i64 0, li .i64 0, ls ByteArray.empty, li .i64 0, ls ByteArray.empty, li .i64 0, ls ByteArray.empty, li .i64 0, ls ByteArray.empty, li .i64 0, ls ByteArray.empty, li .i64 0, li .i64 0, li .i64 0, li .i64 0, li .i64 0, li .i64 0]))] (by kernel_rfl) ?_
      refine SimI.done (by kernel_rfl) ?_
      refine SimE.thenN ?_
      refine Sim.ret ?_
      refine SimE.blockR ?_
      refine SimE.thenR ?_
      refine SimE.loopR ?_
      refine SimE.blockR ?_
      refine SimE.thenR ?_
      exact SimE.fin (by kernel_rfl)
    · refine Sim.skip ?_
      refine SimE.blockN ?_
      refine SimE.thenN ?_
      refine Sim.region0 ?_
      refine SimI.run 2 [(39, .one (li .i64 3)), (72, .one (li .i64 3))] [] (by kernel_rfl) ?_
      refine SimI.done (by kernel_rfl) ?_
      refine SimE.loopN ?_
      refine SimL.succ ?_
      refine Sim.seq ?_
      refine Sim.region [(1, .one (.ptr 1 0)), (2, .one (.ptr 2 0)), (5, .one (.ptr 5 0)), (6, .one (.ptr 6 0)), (7, .one (.ptr 7 0)), (37, .one (.csl 300000 1 0 4)), (38, .one (li .i64 4)), (39, .one (li .i64 3))] [(1, some (.cells [ls a0])), (2, some (.cells [li .i64 0, li .i64 0, li .i64 0, li .i64 0, li .i64 0, li .i64 0, li .i64 0, ls ByteArray.empty, li .i64 0, ls ByteArray.empty, li .i64 0, ls ByteArray.empty, li .i64 0, ls ByteArray.empty, li .i64 0, ls ByteArray.empty, li .i64 0, li .i64 0, li .i64 0, li .i64 0, li .i64 0, li .i64 0])), (5, some (.cells (Command.cells g35))), (6, some (.cells [li .i64 i37])), (7, some (.cells [.fn 64 [.ptr 1 0, .ptr 6 0]])), (300000, some (.cells [.ptr 5 6, .ptr 5 8, .ptr 5 10, .ptr 5 12]))] (by kernel_rfl) ?_
      refine SimI.run 1 [(40, .one (lb true))] [] (by kernel_rfl) ?_
      refine SimI.done (by kernel_rfl) ?_
      refine SimE.thenN ?_
      refine Sim.seq ?_
      refine Sim.condT (by kernel_rfl) ?_
      refine Sim.skip ?_
      refine SimE.thenN ?_
      refine Sim.seq ?_
      refine Sim.block ?_
      refine Sim.seq ?_
      refine Sim.region0 ?_
      refine SimI.run 3 [(12, .one (.ptr 5 12)), (42, .one (.ptr 5 12)), (41, .one (.ptr 300000 3))] [] (by kernel_rfl) ?_
      refine SimI.done (by kernel_rfl) ?_
      refine SimE.thenN ?_
      refine Sim.seq ?_
      refine Sim.region0 ?_
      refine SimI.run 2 [(45, .one (li .i64 i37)), (44, .one (ls a0))] [] (by kernel_rfl) ?_
      refine SimI.guard (c := 0 ≤ (i37 : Int) ∧ (i37 : Int) ≤ (a0.size : Int)) { dst := some 46, op := POp.prim (Prim.slice 9 true false) [Operand.tmp 44, Operand.tmp 45], guard := none, hints := [] } [(46, .one (ls (a0.extract i37.toNat a0.size)))] [] (by kernel_rfl) (fun hc => pOp_eff (by kernel_rfl) (by kernel_rfl) (eff_prim (by kernel_rfl) (pr_cutL (s := a0) (k := .i64) (a := i37) Try.underlying9 hc))) ?_
      refine SimI.bind (og := F67 n (a0.extract i37.toNat a0.size) 12) { dst := some 47, op := POp.call true [[], []] 67 [Operand.tmp 46, Operand.const (Value.int IntKind.i64 12)], guard := none, hints := [] } (fun r39 => [(47, .tup [.one (ls r39.1), .one (li .i64 r39.2.1), .one (li .i64 r39.2.2)])]) (fun r39 => []) (by kernel_rfl) (fun r39 hr => pOp_eff (by kernel_rfl) (by kernel_rfl) (eff_call (ARGS := [.one (ls (a0.extract i37.toNat a0.size)), .one (li .i64 12)]) (by kernel_rfl) (args_clean (by kernel_rfl) (args_clean (by kernel_rfl) args_nil)) (F67_ok n (a0.extract i37.toNat a0.size) 12 r39 hr) (by kernel_rfl))) (fun r39 => ?_)
      refine SimI.run 7 [(15, .one (li .i64 r39.2.2)), (14, .one (li .i64 r39.2.1)), (13, .one (ls r39.1)), (50, .one (li .i64 r39.2.2)), (49, .one (li .i64 r39.2.1)), (48, .one (ls r39.1)), (43, .tup [.one (ls r39.1), .one (li .i64 r39.2.1), .one (li .i64 r39.2.2)])] [] (by kernel_rfl) ?_
      refine SimI.done (by kernel_rfl) ?_
      refine SimE.thenN ?_
      refine Sim.seq ?_
      refine Sim.region0 ?_
      refine SimI.run 4 [(53, .one (li .i64 (IntKind.wrap .i64 (i37 + r39.2.1)))), (52, .one (li .i64 r39.2.1)), (51, .one (li .i64 i37))] [(6, some (.cells [li .i64 (IntKind.wrap .i64 (i37 + r39.2.1))]))] (by kernel_rfl) ?_
      refine SimI.done (by kernel_rfl) ?_
      refine SimE.thenN ?_
      refine Sim.seq ?_
      refine Sim.seq ?_
      refine Sim.region0 ?_
      refine SimI.run 2 [(55, .one (lb (r39.2.2 == 0))), (54, .one (li .i64 r39.2.2))] [] (by kernel_rfl) ?_
      refine SimI.done (by kernel_rfl) ?_
      refine SimE.thenN ?_
      refine Sim.cond (r39.2.2 == 0) (by kernel_rfl) ?_ ?_
      · refine Sim.seq ?_
        refine Sim.region0 ?_
        refine SimI.run 5 [(59, .one (.ptr 5 13)), (58, .one (.ptr 5 12)), (57, .one (ls r39.1)), (56, .one (.ptr 5 12))] [(5, some (.cells [li .i64 g35.Kind, li .i64 g35.ID, li .i64 g35.Which, li .i64 g35.To, li .i64 g35.At.X, li .i64 g35.At.Y, li .i64 g35.F.a0.N, ls g35.F.a0.Text, li .i64 g35.F.a1.N, ls g35.F.a1.Text, li .i64 g35.F.a2.N, ls g35.F.a2.Text, li .i64 g35.F.a3.N, ls r39.1, li .i64 g35.Value.N, ls g35.Value.Text, li .i64 g35.Client, li .i64 g35.Session, li .i64 g35.Rect.X0, li .i64 g35.Rect.Y0, li .i64 g35.Rect.X1, li .i64 g35.Rect.Y1]))] (by kernel_rfl) ?_
        refine SimI.done (by kernel_rfl) ?_
        refine SimE.thenN ?_
        refine Sim.region0 ?_
        refine SimI.run 2 [(62, .one (.fn 64 [.ptr 1 0, .ptr 6 0])), (61, .one (.ptr 5 12))] [] (by kernel_rfl) ?_
        refine SimI.bind (og := F64s0 n a0 (IntKind.wrap .i64 (i37 + r39.2.1))) { dst := some 63, op := POp.gcallv false false [1, 6, 300000, 300001, 300002, 300003, 300004, 300005, 300006, 300007] [] (Operand.tmp 62) [], guard := none, hints := [] } (fun r40 => [(63, .tup [.one (li .i64 r40.1), .one (li .i64 r40.2.1)])]) (fun r40 => [(1, some (.cells [ls a0])), (6, some (.cells [li .i64 r40.2.2]))]) (by kernel_rfl) (fun r40 hr => pOp_eff (by kernel_rfl) (by kernel_rfl) (eff_gcallv (ks := [1, 6]) (rks := []) (new := []) (ARGS := [.one (.ptr 1 0), .one (.ptr 6 0)]) (args1 := [.one (.ptr 1 0), .one (.ptr 6 0)]) (args2 := [.one (.ptr 1000000 0), .one (.ptr 1000001 0)]) (os := [.cells [ls a0], .cells [li .i64 (IntKind.wrap .i64 (i37 + r39.2.1))]]) (os' := [.cells [ls a0], .cells [li .i64 r40.2.2]]) (os1 := [.cells [ls a0], .cells [li .i64 r40.2.2]]) (res := .tup [.one (li .i64 r40.1), .one (li .i64 r40.2.1)]) (res1 := .tup [.one (li .i64 r40.1), .one (li .i64 r40.2.1)]) (r := .tup [.one (li .i64 r40.1), .one (li .i64 r40.2.1)]) (N := [(1, some (.cells [ls a0])), (6, some (.cells [li .i64 r40.2.2]))]) (caps := [.ptr 1 0, .ptr 6 0]) (by kernel_rfl) (by kernel_rfl) (readA_ow (readA_keep (by kernel_rfl) (readA_keep (by kernel_rfl) (readA_nil)))) (by kernel_rfl) (by kernel_rfl) (by kernel_rfl) (by kernel_rfl) (F64s0_ok n a0 (IntKind.wrap .i64 (i37 + r39.2.1)) r40 hr) (by kernel_rfl) (by kernel_rfl) (by kernel_rfl) rfl (by kernel_rfl) (by kernel_rfl) (by kernel_rfl))) (fun r40 => ?_)
        refine SimI.run 7 [(15, .one (li .i64 r40.2.1)), (67, .one (.ptr 5 12)), (66, .one (.ptr 5 12)), (65, .one (li .i64 r40.2.1)), (64, .one (li .i64 r40.1)), (60, .tup [.one (li .i64 r40.1), .one (li .i64 r40.2.1)])] [(5, some (.cells [li .i64 g35.Kind, li .i64 g35.ID, li .i64 g35.Which, li .i64 g35.To, li .i64 g35.At.X, li .i64 g35.At.Y, li .i64 g35.F.a0.N, ls g35.F.a0.Text, li .i64 g35.F.a1.N, ls g35.F.a1.Text, li .i64 g35.F.a2.N, ls g35.F.a2.Text, li .i64 r40.1, ls r39.1, li .i64 g35.Value.N, ls g35.Value.Text, li .i64 g35.Client, li .i64 g35.Session, li .i64 g35.Rect.X0, li .i64 g35.Rect.Y0, li .i64 g35.Rect.X1, li .i64 g35.Rect.Y1]))] (by kernel_rfl) ?_
        refine SimI.done (by kernel_rfl) ?_
        refine SimE.thenN ?_
        refine Sim.pre (ts := [1, 2, 5, 6, 7, 15, 37, 38, 39]) (os := [1, 2, 5, 6, 7, 300000]) (ow := []) [(1, .one (.ptr 1 0)), (2, .one (.ptr 2 0)), (5, .one (.ptr 5 0)), (6, .one (.ptr 6 0)), (7, .one (.ptr 7 0)), (15, .one (li .i64 r40.2.1)), (37, .one (.csl 300000 1 0 4)), (38, .one (li .i64 4)), (39, .one (li .i64 3))] [(1, some (.cells [ls a0])), (2, some (.cells [li .i64 0, li .i64 0, li .i64 0, li .i64 0, li .i64 0, li .i64 0, li .i64 0, ls ByteArray.empty, li .i64 0, ls ByteArray.empty, li .i64 0, ls ByteArray.empty, li .i64 0, ls ByteArray.empty, li .i64 0, ls ByteArray.empty, li .i64 0, li .i64 0, li .i64 0, li .i64 0, li .i64 0, li .i64 0])), (5, some (.cells [li .i64 g35.Kind, li .i64 g35.ID, li .i64 g35.Which, li .i64 g35.To, li .i64 g35.At.X, li .i64 g35.At.Y, li .i64 g35.F.a0.N, ls g35.F.a0.Text, li .i64 g35.F.a1.N, ls g35.F.a1.Text, li .i64 g35.F.a2.N, ls g35.F.a2.Text, li .i64 r40.1, ls r39.1, li .i64 g35.Value.N, ls g35.Value.Text, li .i64 g35.Client, li .i64 g35.Session, li .i64 g35.Rect.X0, li .i64 g35.Rect.Y0, li .i64 g35.Rect.X1, li .i64 g35.Rect.Y1])), (6, some (.cells [li .i64 r40.2.2])), (7, some (.cells [.fn 64 [.ptr 1 0, .ptr 6 0]])), (300000, some (.cells [.ptr 5 6, .ptr 5 8, .ptr 5 10, .ptr 5 12]))] (by kernel_rfl) (by kernel_rfl) (by kernel_rfl) ?_
        exact F40_j44_ok n a0 (Command.mk g35.Kind g35.ID g35.Which g35.To g35.At (A4.mk g35.F.a0 g35.F.a1 g35.F.a2 (Field.mk r40.1 r39.1)) g35.Value g35.Client g35.Session g35.Rect) r40.2.1 r40.2.2
      · refine Sim.skip ?_
        refine SimE.thenN ?_
        refine Sim.pre (ts := [1, 2, 5, 6, 7, 15, 37, 38, 39]) (os := [1, 2, 5, 6, 7, 300000]) (ow := []) [(1, .one (.ptr 1 0)), (2, .one (.ptr 2 0)), (5, .one (.ptr 5 0)), (6, .one (.ptr 6 0)), (7, .one (.ptr 7 0)), (15, .one (li .i64 r39.2.2)), (37, .one (.csl 300000 1 0 4)), (38, .one (li .i64 4)), (39, .one (li .i64 3))] [(1, some (.cells [ls a0])), (2, some (.cells [li .i64 0, li .i64 0, li .i64 0, li .i64 0, li .i64 0, li .i64 0, li .i64 0, ls ByteArray.empty, li .i64 0, ls ByteArray.empty, li .i64 0, ls ByteArray.empty, li .i64 0, ls ByteArray.empty, li .i64 0, ls ByteArray.empty, li .i64 0, li .i64 0, li .i64 0, li .i64 0, li .i64 0, li .i64 0])), (5, some (.cells (Command.cells g35))), (6, some (.cells [li .i64 (IntKind.wrap .i64 (i37 + r39.2.1))])), (7, some (.cells [.fn 64 [.ptr 1 0, .ptr 6 0]])), (300000, some (.cells [.ptr 5 6, .ptr 5 8, .ptr 5 10, .ptr 5 12]))] (by kernel_rfl) (by kernel_rfl) (by kernel_rfl) ?_
        exact F40_j44_ok n a0 g35 r39.2.2 (IntKind.wrap .i64 (i37 + r39.2.1))

def F40_j32 (n : Nat) (a0 : ByteArray) (g29 : Command) (i30 : Int) (i31 : Int) : Option (Command × Int × Int) :=
    if i30 != 0 then
      some ((Command.mk 0 0 0 0 (Point.mk 0 0) (A4.mk (Field.mk 0 ByteArray.empty) (Field.mk 0 ByteArray.empty) (Field.mk 0 ByteArray.empty) (Field.mk 0 ByteArray.empty)) (Field.mk 0 ByteArray.empty) 0 0 (Rect.mk 0 0 0 0)), 0, i30)
    else
      if 0 ≤ (i31 : Int) ∧ (i31 : Int) ≤ (a0.size : Int) then
        (F67 n (a0.extract i31.toNat a0.size) 12).bind fun (r33 : (ByteArray × Int × Int)) =>
        if r33.2.2 == 0 then
          (F64s0 n a0 (IntKind.wrap .i64 (i31 + r33.2.1))).bind fun (r34 : (Int × Int × Int)) =>
          F40_j38 n a0 (Command.mk g29.Kind g29.ID g29.Which g29.To g29.At (A4.mk g29.F.a0 g29.F.a1 (Field.mk r34.1 r33.1) g29.F.a3) g29.Value g29.Client g29.Session g29.Rect) r34.2.1 r34.2.2
        else
          F40_j38 n a0 g29 r33.2.2 (IntKind.wrap .i64 (i31 + r33.2.1))
      else none
theorem F40_j32_ok (n : Nat) (a0 : ByteArray) (g29 : Command) (i30 : Int) (i31 : Int) : Sim Try.prog D (n + 8) pc40_c45 [(1, .one (.ptr 1 0)), (2, .one (.ptr 2 0)), (5, .one (.ptr 5 0)), (6, .one (.ptr 6 0)), (7, .one (.ptr 7 0)), (15, .one (li .i64 i30)), (37, .one (.csl 300000 1 0 4)), (38, .one (li .i64 4)), (39, .one (li .i64 1))] [(1, some (.cells [ls a0])), (2, some (.cells [li .i64 0, li .i64 0, li .i64 0, li .i64 0, li .i64 0, li .i64 0, li .i64 0, ls ByteArray.empty, li .i64 0, ls ByteArray.empty, li .i64 0, ls ByteArray.empty, li .i64 0, ls ByteArray.empty, li .i64 0, ls ByteArray.empty, li .i64 0, li .i64 0, li .i64 0, li .i64 0, li .i64 0, li .i64 0])), (5, some (.cells (Command.cells g29))), (6, some (.cells [li .i64 i31])), (7, some (.cells [.fn 64 [.ptr 1 0, .ptr 6 0]])), (300000, some (.cells [.ptr 5 6, .ptr 5 8, .ptr 5 10, .ptr 5 12]))] (F40_j32 n a0 g29 i30 i31) (QB 1 (QT Try.prog D (n + 8) pc40_c51 (QL Try.prog D (n + 8) (n + 6) pc40_c54 (QB 0 (QT Try.prog D (n + 8) pc40_c70 (QF false pc40_r 0 F40_e)))))) := by
    unfold F40_j32
    refine Sim.seq ?_
    refine Sim.region [(1, .one (.ptr 1 0)), (2, .one (.ptr 2 0)), (5, .one (.ptr 5 0)), (6, .one (.ptr 6 0)), (7, .one (.ptr 7 0)), (15, .one (li .i64 i30)), (37, .one (.csl 300000 1 0 4)), (38, .one (li .i64 4)), (39, .one (li .i64 1))] [(1, some (.cells [ls a0])), (2, some (.cells [li .i64 0, li .i64 0, li .i64 0, li .i64 0, li .i64 0, li .i64 0, li .i64 0, ls ByteArray.empty, li .i64 0, ls ByteArray.empty, li .i64 0, ls ByteArray.empty, li .i64 0, ls ByteArray.empty, li .i64 0, ls ByteArray.empty, li .i64 0, li .i64 0, li .i64 0, li .i64 0, li .i64 0, li .i64 0])), (5, some (.cells (Command.cells g29))), (6, some (.cells [li .i64 i31])), (7, some (.cells [.fn 64 [.ptr 1 0, .ptr 6 0]])), (300000, some (.cells [.ptr 5 6, .ptr 5 8, .ptr 5 10, .ptr 5 12]))] (by kernel_rfl) ?_
    refine SimI.run 2 [(69, .one (lb (i30 != 0))), (68, .one (li .i64 i30))] [] (by kernel_rfl) ?_
    refine SimI.done (by kernel_rfl) ?_
    refine SimE.thenN ?_
    refine Sim.cond (i30 != 0) (by kernel_rfl) ?_ ?_
    · refine Sim.seq ?_
      refine Sim.region0 ?_
      refine SimI.run 5 [(4, .one (li .i64 i30)), (3, .one (li .i64 0)), (71, .one (li .i64 i30)), (70, .agg [li .i64 0, li .i64 0, li .i64 0, li .i64 0, li .i64 0, li .i64 0, li .i64 0, ls ByteArray.empty, li .i64 0, ls ByteArray.empty, li .i64 0, ls ByteArray.empty, li .i64 0, ls ByteArray.empty, li .i64 0, ls ByteArray.empty, li .i64 0, li .i64 0, li .i64 0, li .i64 0, li .i64 0, li .i64 0])] [(2, some (.cells [li .i64 0, li .i64 0, li .i64 0, li .i64 0, li .i64 0, li .i64 0, li .i64 0, ls ByteArray.empty, li .i64 0, ls ByteArray.empty, li .i64 0, ls ByteArray.empty, li .i64 0, ls ByteArray.empty, li .i64 0, ls ByteArray.empty, li .i64 0, li .i64 0, li .i64 0, li .i64 0, li .i64 0, li .i64 0]))] (by kernel_rfl) ?_
      refine SimI.done (by kernel_rfl) ?_
      refine SimE.thenN ?_
      refine Sim.ret ?_
      refine SimE.blockR ?_
      refine SimE.thenR ?_
      refine SimE.loopR ?_
      refine SimE.blockR ?_
      refine SimE.thenR ?_
      exact SimE.fin (by kernel_rfl)
    · refine Sim.skip ?_
      refine SimE.blockN ?_
      refine SimE.thenN ?_
      refine Sim.region0 ?_
      refine SimI.run 2 [(39, .one (li .i64 2)), (72, .one (li .i64 2))] [] (by kernel_rfl) ?_
      refine SimI.done (by kernel_rfl) ?_
      refine SimE.loopN ?_
      refine SimL.succ ?_
      refine Sim.seq ?_
      refine Sim.region [(1, .one (.ptr 1 0)), (2, .one (.ptr 2 0)), (5, .one (.ptr 5 0)), (6, .one (.ptr 6 0)), (7, .one (.ptr 7 0)), (37, .one (.csl 300000 1 0 4)), (38, .one (li .i64 4)), (39, .one (li .i64 2))] [(1, some (.cells [ls a0])), (2, some (.cells [li .i64 0, li .i64 0, li .i64 0, li .i64 0, li .i64 0, li .i64 0, li .i64 0, ls ByteArray.empty, li .i64 0, ls ByteArray.empty, li .i64 0, ls ByteArray.empty, li .i64 0, ls ByteArray.empty, li .i64 0, ls ByteArray.empty, li .i64 0, li .i64 0, li .i64 0, li .i64 0, li .i64 0, li .i64 0])), (5, some (.cells (Command.cells g29))), (6, some (.cells [li .i64 i31])), (7, some (.cells [.fn 64 [.ptr 1 0, .ptr 6 0]])), (300000, some (.cells [.ptr 5 6, .ptr 5 8, .ptr 5 10, .ptr 5 12]))] (by kernel_rfl) ?_
      refine SimI.run 1 [(40, .one (lb true))] [] (by kernel_rfl) ?_
      refine SimI.done (by kernel_rfl) ?_
      refine SimE.thenN ?_
      refine Sim.seq ?_
      refine Sim.condT (by kernel_rfl) ?_
      refine Sim.skip ?_
      refine SimE.thenN ?_
      refine Sim.seq ?_
      refine Sim.block ?_
      refine Sim.seq ?_
      refine Sim.region0 ?_
      refine SimI.run 3 [(12, .one (.ptr 5 10)), (42, .one (.ptr 5 10)), (41, .one (.ptr 300000 2))] [] (by kernel_rfl) ?_
      refine SimI.done (by kernel_rfl) ?_
      refine SimE.thenN ?_
      refine Sim.seq ?_
      refine Sim.region0 ?_
      refine SimI.run 2 [(45, .one (li .i64 i31)), (44, .one (ls a0))] [] (by kernel_rfl) ?_
      refine SimI.guard (c := 0 ≤ (i31 : Int) ∧ (i31 : Int) ≤ (a0.size : Int)) { dst := some 46, op := POp.prim (Prim.slice 9 true false) [Operand.tmp 44, Operand.tmp 45], guard := none, hints := [] } [(46, .one (ls (a0.extract i31.toNat a0.size)))] [] (by kernel_rfl) (fun hc => pOp_eff (by kernel_rfl) (by kernel_rfl) (eff_prim (by kernel_rfl) (pr_cutL (s := a0) (k := .i64) (a := i31) Try.underlying9 hc))) ?_
      refine SimI.bind (og := F67 n (a0.extract i31.toNat a0.size) 12) { dst := some 47, op := POp.call true [[], []] 67 [Operand.tmp 46, Operand.const (Value.int IntKind.i64 12)], guard := none, hints := [] } (fun r33 => [(47, .tup [.one (ls r33.1), .one (li .i64 r33.2.1), .one (li .i64 r33.2.2)])]) (fun r33 => []) (by kernel_rfl) (fun r33 hr => pOp_eff (by kernel_rfl) (by kernel_rfl) (eff_call (ARGS := [.one (ls (a0.extract i31.toNat a0.size)), .one (li .i64 12)]) (by kernel_rfl) (args_clean (by kernel_rfl) (args_clean (by kernel_rfl) args_nil)) (F67_ok n (a0.extract i31.toNat a0.size) 12 r33 hr) (by kernel_rfl))) (fun r33 => ?_)
      refine SimI.run 7 [(15, .one (li .i64 r33.2.2)), (14, .one (li .i64 r33.2.1)), (13, .one (ls r33.1)), (50, .one (li .i64 r33.2.2)), (49, .one (li .i64 r33.2.1)), (48, .one (ls r33.1)), (43, .tup [.one (ls r33.1), .one (li .i64 r33.2.1), .one (li .i64 r33.2.2)])] [] (by kernel_rfl) ?_
      refine SimI.done (by kernel_rfl) ?_
      refine SimE.thenN ?_
      refine Sim.seq ?_
      refine Sim.region0 ?_
      refine SimI.run 4 [(53, .one (li .i64 (IntKind.wrap .i64 (i31 + r33.2.1)))), (52, .one (li .i64 r33.2.1)), (51, .one (li .i64 i31))] [(6, some (.cells [li .i64 (IntKind.wrap .i64 (i31 + r33.2.1))]))] (by kernel_rfl) ?_
      refine SimI.done (by kernel_rfl) ?_
      refine SimE.thenN ?_
      refine Sim.seq ?_
      refine Sim.seq ?_
      refine Sim.region0 ?_
      refine SimI.run 2 [(55, .one (lb (r33.2.2 == 0))), (54, .one (li .i64 r33.2.2))] [] (by kernel_rfl) ?_
      refine SimI.done (by kernel_rfl) ?_
      refine SimE.thenN ?_
      refine Sim.cond (r33.2.2 == 0) (by kernel_rfl) ?_ ?_
      · refine Sim.seq ?_
        refine Sim.region0 ?_
        refine SimI.run 5 [(59, .one (.ptr 5 11)), (58, .one (.ptr 5 10)), (57, .one (ls r33.1)), (56, .one (.ptr 5 10))] [(5, some (.cells [li .i64 g29.Kind, li .i64 g29.ID, li .i64 g29.Which, li .i64 g29.To, li .i64 g29.At.X, li .i64 g29.At.Y, li .i64 g29.F.a0.N, ls g29.F.a0.Text, li .i64 g29.F.a1.N, ls g29.F.a1.Text, li .i64 g29.F.a2.N, ls r33.1, li .i64 g29.F.a3.N, ls g29.F.a3.Text, li .i64 g29.Value.N, ls g29.Value.Text, li .i64 g29.Client, li .i64 g29.Session, li .i64 g29.Rect.X0, li .i64 g29.Rect.Y0, li .i64 g29.Rect.X1, li .i64 g29.Rect.Y1]))] (by kernel_rfl) ?_
        refine SimI.done (by kernel_rfl) ?_
        refine SimE.thenN ?_
        refine Sim.region0 ?_
        refine SimI.run 2 [(62, .one (.fn 64 [.ptr 1 0, .ptr 6 0])), (61, .one (.ptr 5 10))] [] (by kernel_rfl) ?_
        refine SimI.bind (og := F64s0 n a0 (IntKind.wrap .i64 (i31 + r33.2.1))) { dst := some 63, op := POp.gcallv false false [1, 6, 300000, 300001, 300002, 300003, 300004, 300005, 300006, 300007] [] (Operand.tmp 62) [], guard := none, hints := [] } (fun r34 => [(63, .tup [.one (li .i64 r34.1), .one (li .i64 r34.2.1)])]) (fun r34 => [(1, some (.cells [ls a0])), (6, some (.cells [li .i64 r34.2.2]))]) (by kernel_rfl) (fun r34 hr => pOp_eff (by kernel_rfl) (by kernel_rfl) (eff_gcallv (ks := [1, 6]) (rks := []) (new := []) (ARGS := [.one (.ptr 1 0), .one (.ptr 6 0)]) (args1 := [.one (.ptr 1 0), .one (.ptr 6 0)]) (args2 := [.one (.ptr 1000000 0), .one (.ptr 1000001 0)]) (os := [.cells [ls a0], .cells [li .i64 (IntKind.wrap .i64 (i31 + r33.2.1))]]) (os' := [.cells [ls a0], .cells [li .i64 r34.2.2]]) (os1 := [.cells [ls a0], .cells [li .i64 r34.2.2]]) (res := .tup [.one (li .i64 r34.1), .one (li .i64 r34.2.1)]) (res1 := .tup [.one (li .i64 r34.1), .one (li .i64 r34.2.1)]) (r := .tup [.one (li .i64 r34.1), .one (li .i64 r34.2.1)]) (N := [(1, some (.cells [ls a0])), (6, some (.cells [li .i64 r34.2.2]))]) (caps := [.ptr 1 0, .ptr 6 0]) (by kernel_rfl) (by kernel_rfl) (readA_ow (readA_keep (by kernel_rfl) (readA_keep (by kernel_rfl) (readA_nil)))) (by kernel_rfl) (by kernel_rfl) (by kernel_rfl) (by kernel_rfl) (F64s0_ok n a0 (IntKind.wrap .i64 (i31 + r33.2.1)) r34 hr) (by kernel_rfl) (by kernel_rfl) (by kernel_rfl) rfl (by kernel_rfl) (by kernel_rfl) (by kernel_rfl))) (fun r34 => ?_)
        refine SimI.run 7 [(15, .one (li .i64 r34.2.1)), (67, .one (.ptr 5 10)), (66, .one (.ptr 5 10)), (65, .one (li .i64 r34.2.1)), (64, .one (li .i64 r34.1)), (60, .tup [.one (li .i64 r34.1), .one (li .i64 r34.2.1)])] [(5, some (.cells [li .i64 g29.Kind, li .i64 g29.ID, li .i64 g29.Which, li .i64 g29.To, li .i64 g29.At.X, li .i64 g29.At.Y, li .i64 g29.F.a0.N, ls g29.F.a0.Text, li .i64 g29.F.a1.N, ls g29.F.a1.Text, li .i64 r34.1, ls r33.1, li .i64 g29.F.a3.N, ls g29.F.a3.Text, li .i64 g29.Value.N, ls g29.Value.Text, li .i64 g29.Client, li .i64 g29.Session, li .i64 g29.Rect.X0, li .i64 g29.Rect.Y0, li .i64 g29.Rect.X1, li .i64 g29.Rect.Y1]))] (by kernel_rfl) ?_
        refine SimI.done (by kernel_rfl) ?_
        refine SimE.thenN ?_
        refine Sim.pre (ts := [1, 2, 5, 6, 7, 15, 37, 38, 39]) (os := [1, 2, 5, 6, 7, 300000]) (ow := []) [(1, .one (.ptr 1 0)), (2, .one (.ptr 2 0)), (5, .one (.ptr 5 0)), (6, .one (.ptr 6 0)), (7, .one (.ptr 7 0)), (15, .one (li .i64 r34.2.1)), (37, .one (.csl 300000 1 0 4)), (38, .one (li .i64 4)), (39, .one (li .i64 2))] [(1, some (.cells [ls a0])), (2, some (.cells [li .i64 0, li .i64 0, li .i64 0, li .i64 0, li .i64 0, li .i64 0, li .i64 0, ls ByteArray.empty, li .i64 0, ls ByteArray.empty, li .i64 0, ls ByteArray.empty, li .i64 0, ls ByteArray.empty, li .i64 0, ls ByteArray.empty, li .i64 0, li .i64 0, li .i64 0, li .i64 0, li .i64 0, li .i64 0])), (5, some (.cells [li .i64 g29.Kind, li .i64 g29.ID, li .i64 g29.Which, li .i64 g29.To, li .i64 g29.At.X, li .i64 g29.At.Y, li .i64 g29.F.a0.N, ls g29.F.a0.Text, li .i64 g29.F.a1.N, ls g29.F.a1.Text, li .i64 r34.1, ls r33.1, li .i64 g29.F.a3.N, ls g29.F.a3.Text, li .i64 g29.Value.N, ls g29.Value.Text, li .i64 g29.Client, li .i64 g29.Session, li .i64 g29.Rect.X0, li .i64 g29.Rect.Y0, li .i64 g29.Rect.X1, li .i64 g29.Rect.Y1])), (6, some (.cells [li .i64 r34.2.2])), (7, some (.cells [.fn 64 [.ptr 1 0, .ptr 6 0]])), (300000, some (.cells [.ptr 5 6, .ptr 5 8, .ptr 5 10, .ptr 5 12]))] (by kernel_rfl) (by kernel_rfl) (by kernel_rfl) ?_
        exact F40_j38_ok n a0 (Command.mk g29.Kind g29.ID g29.Which g29.To g29.At (A4.mk g29.F.a0 g29.F.a1 (Field.mk r34.1 r33.1) g29.F.a3) g29.Value g29.Client g29.Session g29.Rect) r34.2.1 r34.2.2
      · refine Sim.skip ?_
        refine SimE.thenN ?_
        refine Sim.pre (ts := [1, 2, 5, 6, 7, 15, 37, 38, 39]) (os := [1, 2, 5, 6, 7, 300000]) (ow := []) [(1, .one (.ptr 1 0)), (2, .one (.ptr 2 0)), (5, .one (.ptr 5 0)), (6, .one (.ptr 6 0)), (7, .one (.ptr 7 0)), (15, .one (li .i64 r33.2.2)), (37, .one (.csl 300000 1 0 4)), (38, .one (li .i64 4)), (39, .one (li .i64 2))] [(1, some (.cells [ls a0])), (2, some (.cells [li .i64 0, li .i64 0, li .i64 0, li .i64 0, li .i64 0, li .i64 0, li .i64 0, ls ByteArray.empty, li .i64 0, ls ByteArray.empty, li .i64 0, ls ByteArray.empty, li .i64 0, ls ByteArray.empty, li .i64 0, ls ByteArray.empty, li .i64 0, li .i64 0, li .i64 0, li .i64 0, li .i64 0, li .i64 0])), (5, some (.cells (Command.cells g29))), (6, some (.cells [li .i64 (IntKind.wrap .i64 (i31 + r33.2.1))])), (7, some (.cells [.fn 64 [.ptr 1 0, .ptr 6 0]])), (300000, some (.cells [.ptr 5 6, .ptr 5 8, .ptr 5 10, .ptr 5 12]))] (by kernel_rfl) (by kernel_rfl) (by kernel_rfl) ?_
        exact F40_j38_ok n a0 g29 r33.2.2 (IntKind.wrap .i64 (i31 + r33.2.1))

def F40_j26 (n : Nat) (a0 : ByteArray) (g23 : Command) (i24 : Int) (i25 : Int) : Option (Command × Int × Int) :=
    if i24 != 0 then
      some ((Command.mk 0 0 0 0 (Point.mk 0 0) (A4.mk (Field.mk 0 ByteArray.empty) (Field.mk 0 ByteArray.empty) (Field.mk 0 ByteArray.empty) (Field.mk 0 ByteArray.empty)) (Field.mk 0 ByteArray.empty) 0 0 (Rect.mk 0 0 0 0)), 0, i24)
    else
      if 0 ≤ (i25 : Int) ∧ (i25 : Int) ≤ (a0.size : Int) then
        (F67 n (a0.extract i25.toNat a0.size) 12).bind fun (r27 : (ByteArray × Int × Int)) =>
        if r27.2.2 == 0 then
          (F64s0 n a0 (IntKind.wrap .i64 (i25 + r27.2.1))).bind fun (r28 : (Int × Int × Int)) =>
          F40_j32 n a0 (Command.mk g23.Kind g23.ID g23.Which g23.To g23.At (A4.mk g23.F.a0 (Field.mk r28.1 r27.1) g23.F.a2 g23.F.a3) g23.Value g23.Client g23.Session g23.Rect) r28.2.1 r28.2.2
        else
          F40_j32 n a0 g23 r27.2.2 (IntKind.wrap .i64 (i25 + r27.2.1))
      else none
theorem F40_j26_ok (n : Nat) (a0 : ByteArray) (g23 : Command) (i24 : Int) (i25 : Int) : Sim Try.prog D (n + 8) pc40_c45 [(1, .one (.ptr 1 0)), (2, .one (.ptr 2 0)), (5, .one (.ptr 5 0)), (6, .one (.ptr 6 0)), (7, .one (.ptr 7 0)), (15, .one (li .i64 i24)), (37, .one (.csl 300000 1 0 4)), (38, .one (li .i64 4)), (39, .one (li .i64 0))] [(1, some (.cells [ls a0])), (2, some (.cells [li .i64 0, li .i64 0, li .i64 0, li .i64 0, li .i64 0, li .i64 0, li .i64 0, ls ByteArray.empty, li .i64 0, ls ByteArray.empty, li .i64 0, ls ByteArray.empty, li .i64 0, ls ByteArray.empty, li .i64 0, ls ByteArray.empty, li .i64 0, li .i64 0, li .i64 0, li .i64 0, li .i64 0, li .i64 0])), (5, some (.cells (Command.cells g23))), (6, some (.cells [li .i64 i25])), (7, some (.cells [.fn 64 [.ptr 1 0, .ptr 6 0]])), (300000, some (.cells [.ptr 5 6, .ptr 5 8, .ptr 5 10, .ptr 5 12]))] (F40_j26 n a0 g23 i24 i25) (QB 1 (QT Try.prog D (n + 8) pc40_c51 (QL Try.prog D (n + 8) (n + 7) pc40_c54 (QB 0 (QT Try.prog D (n + 8) pc40_c70 (QF false pc40_r 0 F40_e)))))) := by
    unfold F40_j26
    refine Sim.seq ?_
    refine Sim.region [(1, .one (.ptr 1 0)), (2, .one (.ptr 2 0)), (5, .one (.ptr 5 0)), (6, .one (.ptr 6 0)), (7, .one (.ptr 7 0)), (15, .one (li .i64 i24)), (37, .one (.csl 300000 1 0 4)), (38, .one (li .i64 4)), (39, .one (li .i64 0))] [(1, some (.cells [ls a0])), (2, some (.cells [li .i64 0, li .i64 0, li .i64 0, li .i64 0, li .i64 0, li .i64 0, li .i64 0, ls ByteArray.empty, li .i64 0, ls ByteArray.empty, li .i64 0, ls ByteArray.empty, li .i64 0, ls ByteArray.empty, li .i64 0, ls ByteArray.empty, li .i64 0, li .i64 0, li .i64 0, li .i64 0, li .i64 0, li .i64 0])), (5, some (.cells (Command.cells g23))), (6, some (.cells [li .i64 i25])), (7, some (.cells [.fn 64 [.ptr 1 0, .ptr 6 0]])), (300000, some (.cells [.ptr 5 6, .ptr 5 8, .ptr 5 10, .ptr 5 12]))] (by kernel_rfl) ?_
    refine SimI.run 2 [(69, .one (lb (i24 != 0))), (68, .one (li .i64 i24))] [] (by kernel_rfl) ?_
    refine SimI.done (by kernel_rfl) ?_
    refine SimE.thenN ?_
    refine Sim.cond (i24 != 0) (by kernel_rfl) ?_ ?_
    · refine Sim.seq ?_
      refine Sim.region0 ?_
      refine SimI.run 5 [(4, .one (li .i64 i24)), (3, .one (li .i64 0)), (71, .one (li .i64 i24)), (70, .agg [li .i64 0, li .i64 0, li .i64 0, li .i64 0, li .i64 0, li .i64 0, li .i64 0, ls ByteArray.empty, li .i64 0, ls ByteArray.empty, li .i64 0, ls ByteArray.empty, li .i64 0, ls ByteArray.empty, li .i64 0, ls ByteArray.empty, li .i64 0, li .i64 0, li .i64 0, li .i64 0, li .i64 0, li .i64 0])] [(2, some (.cells [li .i64 0, li .i64 0, li .i64 0, li .i64 0, li .i64 0, li .i64 0, li .i64 0, ls ByteArray.empty, li .i64 0, ls ByteArray.empty, li .i64 0, ls ByteArray.empty, li .i64 0, ls ByteArray.empty, li .i64 0, ls ByteArray.empty, li .i64 0, li .i64 0, li .i64 0, li .i64 0, li .i64 0, li .i64 0]))] (by kernel_rfl) ?_
      refine SimI.done (by kernel_rfl) ?_
      refine SimE.thenN ?_
      refine Sim.ret ?_
      refine SimE.blockR ?_
      refine SimE.thenR ?_
      refine SimE.loopR ?_
      refine SimE.blockR ?_
      refine SimE.thenR ?_
      exact SimE.fin (by kernel_rfl)
    · refine Sim.skip ?_
      refine SimE.blockN ?_
      refine SimE.thenN ?_
      refine Sim.region0 ?_
      refine SimI.run 2 [(39, .one (li .i64 1)), (72, .one (li .i64 1))] [] (by kernel_rfl) ?_
      refine SimI.done (by kernel_rfl) ?_
      refine SimE.loopN ?_
      refine SimL.succ ?_
      refine Sim.seq ?_
      refine Sim.region [(1, .one (.ptr 1 0)), (2, .one (.ptr 2 0)), (5, .one (.ptr 5 0)), (6, .one (.ptr 6 0)), (7, .one (.ptr 7 0)), (37, .one (.csl 300000 1 0 4)), (38, .one (li .i64 4)), (39, .one (li .i64 1))] [(1, some (.cells [ls a0])), (2, some (.cells [li .i64 0, li .i64 0, li .i64 0, li .i64 0, li .i64 0, li .i64 0, li .i64 0, ls ByteArray.empty, li .i64 0, ls ByteArray.empty, li .i64 0, ls ByteArray.empty, li .i64 0, ls ByteArray.empty, li .i64 0, ls ByteArray.empty, li .i64 0, li .i64 0, li .i64 0, li .i64 0, li .i64 0, li .i64 0])), (5, some (.cells (Command.cells g23))), (6, some (.cells [li .i64 i25])), (7, some (.cells [.fn 64 [.ptr 1 0, .ptr 6 0]])), (300000, some (.cells [.ptr 5 6, .ptr 5 8, .ptr 5 10, .ptr 5 12]))] (by kernel_rfl) ?_
      refine SimI.run 1 [(40, .one (lb true))] [] (by kernel_rfl) ?_
      refine SimI.done (by kernel_rfl) ?_
      refine SimE.thenN ?_
      refine Sim.seq ?_
      refine Sim.condT (by kernel_rfl) ?_
      refine Sim.skip ?_
      refine SimE.thenN ?_
      refine Sim.seq ?_
      refine Sim.block ?_
      refine Sim.seq ?_
      refine Sim.region0 ?_
      refine SimI.run 3 [(12, .one (.ptr 5 8)), (42, .one (.ptr 5 8)), (41, .one (.ptr 300000 1))] [] (by kernel_rfl) ?_
      refine SimI.done (by kernel_rfl) ?_
      refine SimE.thenN ?_
      refine Sim.seq ?_
      refine Sim.region0 ?_
      refine SimI.run 2 [(45, .one (li .i64 i25)), (44, .one (ls a0))] [] (by kernel_rfl) ?_
      refine SimI.guard (c := 0 ≤ (i25 : Int) ∧ (i25 : Int) ≤ (a0.size : Int)) { dst := some 46, op := POp.prim (Prim.slice 9 true false) [Operand.tmp 44, Operand.tmp 45], guard := none, hints := [] } [(46, .one (ls (a0.extract i25.toNat a0.size)))] [] (by kernel_rfl) (fun hc => pOp_eff (by kernel_rfl) (by kernel_rfl) (eff_prim (by kernel_rfl) (pr_cutL (s := a0) (k := .i64) (a := i25) Try.underlying9 hc))) ?_
      refine SimI.bind (og := F67 n (a0.extract i25.toNat a0.size) 12) { dst := some 47, op := POp.call true [[], []] 67 [Operand.tmp 46, Operand.const (Value.int IntKind.i64 12)], guard := none, hints := [] } (fun r27 => [(47, .tup [.one (ls r27.1), .one (li .i64 r27.2.1), .one (li .i64 r27.2.2)])]) (fun r27 => []) (by kernel_rfl) (fun r27 hr => pOp_eff (by kernel_rfl) (by kernel_rfl) (eff_call (ARGS := [.one (ls (a0.extract i25.toNat a0.size)), .one (li .i64 12)]) (by kernel_rfl) (args_clean (by kernel_rfl) (args_clean (by kernel_rfl) args_nil)) (F67_ok n (a0.extract i25.toNat a0.size) 12 r27 hr) (by kernel_rfl))) (fun r27 => ?_)
      refine SimI.run 7 [(15, .one (li .i64 r27.2.2)), (14, .one (li .i64 r27.2.1)), (13, .one (ls r27.1)), (50, .one (li .i64 r27.2.2)), (49, .one (li .i64 r27.2.1)), (48, .one (ls r27.1)), (43, .tup [.one (ls r27.1), .one (li .i64 r27.2.1), .one (li .i64 r27.2.2)])] [] (by kernel_rfl) ?_
      refine SimI.done (by kernel_rfl) ?_
      refine SimE.thenN ?_
      refine Sim.seq ?_
      refine Sim.region0 ?_
      refine SimI.run 4 [(53, .one (li .i64 (IntKind.wrap .i64 (i25 + r27.2.1)))), (52, .one (li .i64 r27.2.1)), (51, .one (li .i64 i25))] [(6, some (.cells [li .i64 (IntKind.wrap .i64 (i25 + r27.2.1))]))] (by kernel_rfl) ?_
      refine SimI.done (by kernel_rfl) ?_
      refine SimE.thenN ?_
      refine Sim.seq ?_
      refine Sim.seq ?_
      refine Sim.region0 ?_
      refine SimI.run 2 [(55, .one (lb (r27.2.2 == 0))), (54, .one (li .i64 r27.2.2))] [] (by kernel_rfl) ?_
      refine SimI.done (by kernel_rfl) ?_
      refine SimE.thenN ?_
      refine Sim.cond (r27.2.2 == 0) (by kernel_rfl) ?_ ?_
      · refine Sim.seq ?_
        refine Sim.region0 ?_
        refine SimI.run 5 [(59, .one (.ptr 5 9)), (58, .one (.ptr 5 8)), (57, .one (ls r27.1)), (56, .one (.ptr 5 8))] [(5, some (.cells [li .i64 g23.Kind, li .i64 g23.ID, li .i64 g23.Which, li .i64 g23.To, li .i64 g23.At.X, li .i64 g23.At.Y, li .i64 g23.F.a0.N, ls g23.F.a0.Text, li .i64 g23.F.a1.N, ls r27.1, li .i64 g23.F.a2.N, ls g23.F.a2.Text, li .i64 g23.F.a3.N, ls g23.F.a3.Text, li .i64 g23.Value.N, ls g23.Value.Text, li .i64 g23.Client, li .i64 g23.Session, li .i64 g23.Rect.X0, li .i64 g23.Rect.Y0, li .i64 g23.Rect.X1, li .i64 g23.Rect.Y1]))] (by kernel_rfl) ?_
        refine SimI.done (by kernel_rfl) ?_
        refine SimE.thenN ?_
        refine Sim.region0 ?_
        refine SimI.run 2 [(62, .one (.fn 64 [.ptr 1 0, .ptr 6 0])), (61, .one (.ptr 5 8))] [] (by kernel_rfl) ?_
        refine SimI.bind (og := F64s0 n a0 (IntKind.wrap .i64 (i25 + r27.2.1))) { dst := some 63, op := POp.gcallv false false [1, 6, 300000, 300001, 300002, 300003, 300004, 300005, 300006, 300007] [] (Operand.tmp 62) [], guard := none, hints := [] } (fun r28 => [(63, .tup [.one (li .i64 r28.1), .one (li .i64 r28.2.1)])]) (fun r28 => [(1, some (.cells [ls a0])), (6, some (.cells [li .i64 r28.2.2]))]) (by kernel_rfl) (fun r28 hr => pOp_eff (by kernel_rfl) (by kernel_rfl) (eff_gcallv (ks := [1, 6]) (rks := []) (new := []) (ARGS := [.one (.ptr 1 0), .one (.ptr 6 0)]) (args1 := [.one (.ptr 1 0), .one (.ptr 6 0)]) (args2 := [.one (.ptr 1000000 0), .one (.ptr 1000001 0)]) (os := [.cells [ls a0], .cells [li .i64 (IntKind.wrap .i64 (i25 + r27.2.1))]]) (os' := [.cells [ls a0], .cells [li .i64 r28.2.2]]) (os1 := [.cells [ls a0], .cells [li .i64 r28.2.2]]) (res := .tup [.one (li .i64 r28.1), .one (li .i64 r28.2.1)]) (res1 := .tup [.one (li .i64 r28.1), .one (li .i64 r28.2.1)]) (r := .tup [.one (li .i64 r28.1), .one (li .i64 r28.2.1)]) (N := [(1, some (.cells [ls a0])), (6, some (.cells [li .i64 r28.2.2]))]) (caps := [.ptr 1 0, .ptr 6 0]) (by kernel_rfl) (by kernel_rfl) (readA_ow (readA_keep (by kernel_rfl) (readA_keep (by kernel_rfl) (readA_nil)))) (by kernel_rfl) (by kernel_rfl) (by kernel_rfl) (by kernel_rfl) (F64s0_ok n a0 (IntKind.wrap .i64 (i25 + r27.2.1)) r28 hr) (by kernel_rfl) (by kernel_rfl) (by kernel_rfl) rfl (by kernel_rfl) (by kernel_rfl) (by kernel_rfl))) (fun r28 => ?_)
        refine SimI.run 7 [(15, .one (li .i64 r28.2.1)), (67, .one (.ptr 5 8)), (66, .one (.ptr 5 8)), (65, .one (li .i64 r28.2.1)), (64, .one (li .i64 r28.1)), (60, .tup [.one (li .i64 r28.1), .one (li .i64 r28.2.1)])] [(5, some (.cells [li .i64 g23.Kind, li .i64 g23.ID, li .i64 g23.Which, li .i64 g23.To, li .i64 g23.At.X, li .i64 g23.At.Y, li .i64 g23.F.a0.N, ls g23.F.a0.Text, li .i64 r28.1, ls r27.1, li .i64 g23.F.a2.N, ls g23.F.a2.Text, li .i64 g23.F.a3.N, ls g23.F.a3.Text, li .i64 g23.Value.N, ls g23.Value.Text, li .i64 g23.Client, li .i64 g23.Session, li .i64 g23.Rect.X0, li .i64 g23.Rect.Y0, li .i64 g23.Rect.X1, li .i64 g23.Rect.Y1]))] (by kernel_rfl) ?_
        refine SimI.done (by kernel_rfl) ?_
        refine SimE.thenN ?_
        refine Sim.pre (ts := [1, 2, 5, 6, 7, 15, 37, 38, 39]) (os := [1, 2, 5, 6, 7, 300000]) (ow := []) [(1, .one (.ptr 1 0)), (2, .one (.ptr 2 0)), (5, .one (.ptr 5 0)), (6, .one (.ptr 6 0)), (7, .one (.ptr 7 0)), (15, .one (li .i64 r28.2.1)), (37, .one (.csl 300000 1 0 4)), (38, .one (li .i64 4)), (39, .one (li .i64 1))] [(1, some (.cells [ls a0])), (2, some (.cells [li .i64 0, li .i64 0, li .i64 0, li .i64 0, li .i64 0, li .i64 0, li .i64 0, ls ByteArray.empty, li .i64 0, ls ByteArray.empty, li .i64 0, ls ByteArray.empty, li .i64 0, ls ByteArray.empty, li .i64 0, ls ByteArray.empty, li .i64 0, li .i64 0, li .i64 0, li .i64 0, li .i64 0, li .i64 0])), (5, some (.cells [li .i64 g23.Kind, li .i64 g23.ID, li .i64 g23.Which, li .i64 g23.To, li .i64 g23.At.X, li .i64 g23.At.Y, li .i64 g23.F.a0.N, ls g23.F.a0.Text, li .i64 r28.1, ls r27.1, li .i64 g23.F.a2.N, ls g23.F.a2.Text, li .i64 g23.F.a3.N, ls g23.F.a3.Text, li .i64 g23.Value.N, ls g23.Value.Text, li .i64 g23.Client, li .i64 g23.Session, li .i64 g23.Rect.X0, li .i64 g23.Rect.Y0, li .i64 g23.Rect.X1, li .i64 g23.Rect.Y1])), (6, some (.cells [li .i64 r28.2.2])), (7, some (.cells [.fn 64 [.ptr 1 0, .ptr 6 0]])), (300000, some (.cells [.ptr 5 6, .ptr 5 8, .ptr 5 10, .ptr 5 12]))] (by kernel_rfl) (by kernel_rfl) (by kernel_rfl) ?_
        exact F40_j32_ok n a0 (Command.mk g23.Kind g23.ID g23.Which g23.To g23.At (A4.mk g23.F.a0 (Field.mk r28.1 r27.1) g23.F.a2 g23.F.a3) g23.Value g23.Client g23.Session g23.Rect) r28.2.1 r28.2.2
      · refine Sim.skip ?_
        refine SimE.thenN ?_
        refine Sim.pre (ts := [1, 2, 5, 6, 7, 15, 37, 38, 39]) (os := [1, 2, 5, 6, 7, 300000]) (ow := []) [(1, .one (.ptr 1 0)), (2, .one (.ptr 2 0)), (5, .one (.ptr 5 0)), (6, .one (.ptr 6 0)), (7, .one (.ptr 7 0)), (15, .one (li .i64 r27.2.2)), (37, .one (.csl 300000 1 0 4)), (38, .one (li .i64 4)), (39, .one (li .i64 1))] [(1, some (.cells [ls a0])), (2, some (.cells [li .i64 0, li .i64 0, li .i64 0, li .i64 0, li .i64 0, li .i64 0, li .i64 0, ls ByteArray.empty, li .i64 0, ls ByteArray.empty, li .i64 0, ls ByteArray.empty, li .i64 0, ls ByteArray.empty, li .i64 0, ls ByteArray.empty, li .i64 0, li .i64 0, li .i64 0, li .i64 0, li .i64 0, li .i64 0])), (5, some (.cells (Command.cells g23))), (6, some (.cells [li .i64 (IntKind.wrap .i64 (i25 + r27.2.1))])), (7, some (.cells [.fn 64 [.ptr 1 0, .ptr 6 0]])), (300000, some (.cells [.ptr 5 6, .ptr 5 8, .ptr 5 10, .ptr 5 12]))] (by kernel_rfl) (by kernel_rfl) (by kernel_rfl) ?_
        exact F40_j32_ok n a0 g23 r27.2.2 (IntKind.wrap .i64 (i25 + r27.2.1))

def F40_j13 (n : Nat) (a0 : ByteArray) (g10 : Command) (i11 : Int) (i12 : Int) : Option (Command × Int × Int) :=
    if i11 != 0 then
      some ((Command.mk 0 0 0 0 (Point.mk 0 0) (A4.mk (Field.mk 0 ByteArray.empty) (Field.mk 0 ByteArray.empty) (Field.mk 0 ByteArray.empty) (Field.mk 0 ByteArray.empty)) (Field.mk 0 ByteArray.empty) 0 0 (Rect.mk 0 0 0 0)), 0, i11)
    else
      (F57s0 n g10).bind fun (r14 : Nat) =>
      if r14 = 0 then
        F40_j47 n a0 g10 i12
      else
        if r14 = 1 then
          if 0 ≤ (i12 : Int) ∧ (i12 : Int) ≤ (a0.size : Int) then
            (F67 n (a0.extract i12.toNat a0.size) 12).bind fun (r21 : (ByteArray × Int × Int)) =>
            if r21.2.2 == 0 then
              (F64s0 n a0 (IntKind.wrap .i64 (i12 + r21.2.1))).bind fun (r22 : (Int × Int × Int)) =>
              F40_j26 n a0 (Command.mk g10.Kind g10.ID g10.Which g10.To g10.At (A4.mk (Field.mk r22.1 r21.1) g10.F.a1 g10.F.a2 g10.F.a3) g10.Value g10.Client g10.Session g10.Rect) r22.2.1 r22.2.2
            else
              F40_j26 n a0 g10 r21.2.2 (IntKind.wrap .i64 (i12 + r21.2.1))
          else none
        else
          if r14 = 2 then
            if 0 ≤ (i12 : Int) ∧ (i12 : Int) ≤ (a0.size : Int) then
              (F67 n (a0.extract i12.toNat a0.size) 12).bind fun (r15 : (ByteArray × Int × Int)) =>
              if r15.2.2 == 0 then
                (F64s0 n a0 (IntKind.wrap .i64 (i12 + r15.2.1))).bind fun (r16 : (Int × Int × Int)) =>
                F40_j20 n a0 (Command.mk g10.Kind g10.ID g10.Which g10.To g10.At g10.F (Field.mk r16.1 r15.1) g10.Client g10.Session g10.Rect) r16.2.1 r16.2.2
              else
                F40_j20 n a0 g10 r15.2.2 (IntKind.wrap .i64 (i12 + r15.2.1))
            else none
          else
            none
theorem F40_j13_ok (n : Nat) (a0 : ByteArray) (g10 : Command) (i11 : Int) (i12 : Int) : Sim Try.prog D (n + 8) pc40_c22 [(1, .one (.ptr 1 0)), (2, .one (.ptr 2 0)), (5, .one (.ptr 5 0)), (6, .one (.ptr 6 0)), (7, .one (.ptr 7 0)), (10, .one (li .i64 i11))] [(1, some (.cells [ls a0])), (2, some (.cells [li .i64 0, li .i64 0, li .i64 0, li .i64 0, li .i64 0, li .i64 0, li .i64 0, ls ByteArray.empty, li .i64 0, ls ByteArray.empty, li .i64 0, ls ByteArray.empty, li .i64 0, ls ByteArray.empty, li .i64 0, ls ByteArray.empty, li .i64 0, li .i64 0, li .i64 0, li .i64 0, li .i64 0, li .i64 0])), (5, some (.cells (Command.cells g10))), (6, some (.cells [li .i64 i12])), (7, some (.cells [.fn 64 [.ptr 1 0, .ptr 6 0]]))] (F40_j13 n a0 g10 i11 i12) (QT Try.prog D (n + 8) pc40_c71 (QF false pc40_r 0 F40_e)) := by
    unfold F40_j13
    refine Sim.seq ?_
    refine Sim.region [(1, .one (.ptr 1 0)), (2, .one (.ptr 2 0)), (5, .one (.ptr 5 0)), (6, .one (.ptr 6 0)), (7, .one (.ptr 7 0)), (10, .one (li .i64 i11))] [(1, some (.cells [ls a0])), (2, some (.cells [li .i64 0, li .i64 0, li .i64 0, li .i64 0, li .i64 0, li .i64 0, li .i64 0, ls ByteArray.empty, li .i64 0, ls ByteArray.empty, li .i64 0, ls ByteArray.empty, li .i64 0, ls ByteArray.empty, li .i64 0, ls ByteArray.empty, li .i64 0, li .i64 0, li .i64 0, li .i64 0, li .i64 0, li .i64 0])), (5, some (.cells (Command.cells g10))), (6, some (.cells [li .i64 i12])), (7, some (.cells [.fn 64 [.ptr 1 0, .ptr 6 0]]))] (by kernel_rfl) ?_
    refine SimI.run 2 [(34, .one (lb (i11 != 0))), (33, .one (li .i64 i11))] [] (by kernel_rfl) ?_
    refine SimI.done (by kernel_rfl) ?_
    refine SimE.thenN ?_
    refine Sim.cond (i11 != 0) (by kernel_rfl) ?_ ?_
    · refine Sim.seq ?_
      refine Sim.region0 ?_
      refine SimI.run 5 [(4, .one (li .i64 i11)), (3, .one (li .i64 0)), (36, .one (li .i64 i11)), (35, .agg [li .i64 0, li .i64 0, li .i64 0, li .i64 0, li .i64 0, li .i64 0, li .i64 0, ls ByteArray.empty, li .i64 0, ls ByteArray.empty, li .i64 0, ls ByteArray.empty, li .i64 0, ls ByteArray.empty, li .i64 0, ls ByteArray.empty, li .i64 0, li .i64 0, li .i64 0, li .i64 0, li .i64 0, li .i64 0])] [(2, some (.cells [li .i64 0, li .i64 0, li .i64 0, li .i64 0, li .i64 0, li .i64 0, li .i64 0, ls ByteArray.empty, li .i64 0, ls ByteArray.empty, li .i64 0, ls ByteArray.empty, li .i64 0, ls ByteArray.empty, li .i64 0, ls ByteArray.empty, li .i64 0, li .i64 0, li .i64 0, li .i64 0, li .i64 0, li .i64 0]))] (by kernel_rfl) ?_
      refine SimI.done (by kernel_rfl) ?_
      refine SimE.thenN ?_
      refine Sim.ret ?_
      refine SimE.thenR ?_
      exact SimE.fin (by kernel_rfl)
    · refine Sim.skip ?_
      refine SimE.thenN ?_
      refine Sim.seq ?_
      refine Sim.seq ?_
      refine Sim.region0 ?_
      refine SimI.open (og := F57s0 n g10) (fun r14 hr14 => ?_)
      refine SimI.ite (c := r14 = 0) (fun cr14 => ?_) (fun _ => ?_)
      · refine SimI.step { dst := some 37, op := POp.gcall false false [5, 300000, 300001, 300002, 300003, 300004, 300005, 300006, 300007] [[]] 57 [Operand.tmp 5], guard := none, hints := [] } [(37, .one (.view 1 0 fun _ => []))] [(5, some (.cells (Command.cells g10)))] (by kernel_rfl) (pOp_eff (by kernel_rfl) (by kernel_rfl) (eff_gcall (ks := [5]) (rks := []) (new := []) (ARGS := [.one (.ptr 5 0)]) (args1 := [.one (.ptr 5 0)]) (args2 := [.one (.ptr 1000000 0)]) (os := [.cells (Command.cells g10)]) (os' := [.cells (Command.cells g10)]) (os1 := [.cells (Command.cells g10)]) (res := .one (.view 1 0 fun _ => [])) (res1 := .one (.view 1 0 fun _ => [])) (r := .one (.view 1 0 fun _ => [])) (N := [(5, some (.cells (Command.cells g10)))]) (by kernel_rfl) (readA_ow (readA_keep (by kernel_rfl) (readA_nil))) (by kernel_rfl) (by kernel_rfl) (by kernel_rfl) (by kernel_rfl) ((F57s0_ok n g10 r14 hr14).trans (congrArg some (F57s0_e_0 g10 r14 cr14))) (by kernel_rfl) (by kernel_rfl) (by kernel_rfl) rfl (by kernel_rfl) (by kernel_rfl) (by kernel_rfl))) ?_
        refine SimI.run 2 [(39, .one (li .i64 0)), (38, .one (li .i64 0))] [] (by kernel_rfl) ?_
        refine SimI.done (by kernel_rfl) ?_
        refine SimE.thenN ?_
        refine Sim.block ?_
        refine Sim.loop ?_
        refine SimL.succ ?_
        refine Sim.seq ?_
        refine Sim.region [(1, .one (.ptr 1 0)), (2, .one (.ptr 2 0)), (5, .one (.ptr 5 0)), (6, .one (.ptr 6 0)), (7, .one (.ptr 7 0)), (37, .one (.view 1 0 fun _ => [])), (38, .one (li .i64 0)), (39, .one (li .i64 0))] [(1, some (.cells [ls a0])), (2, some (.cells [li .i64 0, li .i64 0, li .i64 0, li .i64 0, li .i64 0, li .i64 0, li .i64 0, ls ByteArray.empty, li .i64 0, ls ByteArray.empty, li .i64 0, ls ByteArray.empty, li .i64 0, ls ByteArray.empty, li .i64 0, ls ByteArray.empty, li .i64 0, li .i64 0, li .i64 0, li .i64 0, li .i64 0, li .i64 0])), (5, some (.cells (Command.cells g10))), (6, some (.cells [li .i64 i12])), (7, some (.cells [.fn 64 [.ptr 1 0, .ptr 6 0]]))] (by kernel_rfl) ?_
        refine SimI.run 1 [(40, .one (lb false))] [] (by kernel_rfl) ?_
        refine SimI.done (by kernel_rfl) ?_
        refine SimE.thenN ?_
        refine Sim.seq ?_
        refine Sim.condF (by kernel_rfl) ?_
        refine Sim.exit ?_
        refine SimE.thenX ?_
        refine SimE.loopX ?_
        refine SimE.blockX ?_
        refine SimE.thenN ?_
        refine Sim.pre (ts := [1, 2, 5, 6]) (os := [1, 2, 5, 6, 7, 300000]) (ow := []) [(1, .one (.ptr 1 0)), (2, .one (.ptr 2 0)), (5, .one (.ptr 5 0)), (6, .one (.ptr 6 0))] [(1, some (.cells [ls a0])), (2, some (.cells [li .i64 0, li .i64 0, li .i64 0, li .i64 0, li .i64 0, li .i64 0, li .i64 0, ls ByteArray.empty, li .i64 0, ls ByteArray.empty, li .i64 0, ls ByteArray.empty, li .i64 0, ls ByteArray.empty, li .i64 0, ls ByteArray.empty, li .i64 0, li .i64 0, li .i64 0, li .i64 0, li .i64 0, li .i64 0])), (5, some (.cells (Command.cells g10))), (6, some (.cells [li .i64 i12]))] (by kernel_rfl) (by kernel_rfl) (by kernel_rfl) ?_
        exact F40_j47_ok n a0 g10 i12
      · refine SimI.ite (c := r14 = 1) (fun cr14 => ?_) (fun _ => ?_)
        · refine SimI.step { dst := some 37, op := POp.gcall false false [5, 300000, 300001, 300002, 300003, 300004, 300005, 300006, 300007] [[]] 57 [Operand.tmp 5], guard := none, hints := [] } [(37, .one (.csl 300000 1 0 4))] [(5, some (.cells (Command.cells g10))), (300000, some (.cells [.ptr 5 6, .ptr 5 8, .ptr 5 10, .ptr 5 12]))] (by kernel_rfl) (pOp_eff (by kernel_rfl) (by kernel_rfl) (eff_gcall (ks := [5]) (rks := []) (new := [300000]) (ARGS := [.one (.ptr 5 0)]) (args1 := [.one (.ptr 5 0)]) (args2 := [.one (.ptr 1000000 0)]) (os := [.cells (Command.cells g10)]) (os' := [.cells (Command.cells g10), .cells [.ptr 1000000 6, .ptr 1000000 8, .ptr 1000000 10, .ptr 1000000 12]]) (os1 := [.cells (Command.cells g10), .cells [.ptr 1000000 6, .ptr 1000000 8, .ptr 1000000 10, .ptr 1000000 12]]) (res := .one (.csl 1000001 1 0 4)) (res1 := .one (.csl 1000001 1 0 4)) (r := .one (.csl 300000 1 0 4)) (N := [(5, some (.cells (Command.cells g10))), (300000, some (.cells [.ptr 5 6, .ptr 5 8, .ptr 5 10, .ptr 5 12]))]) (by kernel_rfl) (readA_ow (readA_keep (by kernel_rfl) (readA_nil))) (by kernel_rfl) (by kernel_rfl) (by kernel_rfl) (by kernel_rfl) ((F57s0_ok n g10 r14 hr14).trans (congrArg some (F57s0_e_1 g10 r14 cr14))) (by kernel_rfl) (by kernel_rfl) (by kernel_rfl) rfl (by kernel_rfl) (by kernel_rfl) (by kernel_rfl))) ?_
          refine SimI.run 2 [(39, .one (li .i64 0)), (38, .one (li .i64 4))] [] (by kernel_rfl) ?_
          refine SimI.done (by kernel_rfl) ?_
          refine SimE.thenN ?_
          refine Sim.block ?_
          refine Sim.loop ?_
          refine SimL.succ ?_
          refine Sim.seq ?_
          refine Sim.region [(1, .one (.ptr 1 0)), (2, .one (.ptr 2 0)), (5, .one (.ptr 5 0)), (6, .one (.ptr 6 0)), (7, .one (.ptr 7 0)), (37, .one (.csl 300000 1 0 4)), (38, .one (li .i64 4)), (39, .one (li .i64 0))] [(1, some (.cells [ls a0])), (2, some (.cells [li .i64 0, li .i64 0, li .i64 0, li .i64 0, li .i64 0, li .i64 0, li .i64 0, ls ByteArray.empty, li .i64 0, ls ByteArray.empty, li .i64 0, ls ByteArray.empty, li .i64 0, ls ByteArray.empty, li .i64 0, ls ByteArray.empty, li .i64 0, li .i64 0, li .i64 0, li .i64 0, li .i64 0, li .i64 0])), (5, some (.cells (Command.cells g10))), (6, some (.cells [li .i64 i12])), (7, some (.cells [.fn 64 [.ptr 1 0, .ptr 6 0]])), (300000, some (.cells [.ptr 5 6, .ptr 5 8, .ptr 5 10, .ptr 5 12]))] (by kernel_rfl) ?_
          refine SimI.run 1 [(40, .one (lb true))] [] (by kernel_rfl) ?_
          refine SimI.done (by kernel_rfl) ?_
          refine SimE.thenN ?_
          refine Sim.seq ?_
          refine Sim.condT (by kernel_rfl) ?_
          refine Sim.skip ?_
          refine SimE.thenN ?_
          refine Sim.seq ?_
          refine Sim.block ?_
          refine Sim.seq ?_
          refine Sim.region0 ?_
          refine SimI.run 3 [(12, .one (.ptr 5 6)), (42, .one (.ptr 5 6)), (41, .one (.ptr 300000 0))] [] (by kernel_rfl) ?_
          refine SimI.done (by kernel_rfl) ?_
          refine SimE.thenN ?_
          refine Sim.seq ?_
          refine Sim.region0 ?_
          refine SimI.run 2 [(45, .one (li .i64 i12)), (44, .one (ls a0))] [] (by kernel_rfl) ?_
          refine SimI.guard (c := 0 ≤ (i12 : Int) ∧ (i12 : Int) ≤ (a0.size : Int)) { dst := some 46, op := POp.prim (Prim.slice 9 true false) [Operand.tmp 44, Operand.tmp 45], guard := none, hints := [] } [(46, .one (ls (a0.extract i12.toNat a0.size)))] [] (by kernel_rfl) (fun hc => pOp_eff (by kernel_rfl) (by kernel_rfl) (eff_prim (by kernel_rfl) (pr_cutL (s := a0) (k := .i64) (a := i12) Try.underlying9 hc))) ?_
          refine SimI.bind (og := F67 n (a0.extract i12.toNat a0.size) 12) { dst := some 47, op := POp.call true [[], []] 67 [Operand.tmp 46, Operand.const (Value.int IntKind.i64 12)], guard := none, hints := [] } (fun r21 => [(47, .tup [.one (ls r21.1), .one (li .i64 r21.2.1), .one (li .i64 r21.2.2)])]) (fun r21 => []) (by kernel_rfl) (fun r21 hr => pOp_eff (by kernel_rfl) (by kernel_rfl) (eff_call (ARGS := [.one (ls (a0.extract i12.toNat a0.size)), .one (li .i64 12)]) (by kernel_rfl) (args_clean (by kernel_rfl) (args_clean (by kernel_rfl) args_nil)) (F67_ok n (a0.extract i12.toNat a0.size) 12 r21 hr) (by kernel_rfl))) (fun r21 => ?_)
          refine SimI.run 7 [(15, .one (li .i64 r21.2.2)), (14, .one (li .i64 r21.2.1)), (13, .one (ls r21.1)), (50, .one (li .i64 r21.2.2)), (49, .one (li .i64 r21.2.1)), (48, .one (ls r21.1)), (43, .tup [.one (ls r21.1), .one (li .i64 r21.2.1), .one (li .i64 r21.2.2)])] [] (by kernel_rfl) ?_
          refine SimI.done (by kernel_rfl) ?_
          refine SimE.thenN ?_
          refine Sim.seq ?_
          refine Sim.region0 ?_
          refine SimI.run 4 [(53, .one (li .i64 (IntKind.wrap .i64 (i12 + r21.2.1)))), (52, .one (li .i64 r21.2.1)), (51, .one (li .i64 i12))] [(6, some (.cells [li .i64 (IntKind.wrap .i64 (i12 + r21.2.1))]))] (by kernel_rfl) ?_
          refine SimI.done (by kernel_rfl) ?_
          refine SimE.thenN ?_
          refine Sim.seq ?_
          refine Sim.seq ?_
          refine Sim.region0 ?_
          refine SimI.run 2 [(55, .one (lb (r21.2.2 == 0))), (54, .one (li .i64 r21.2.2))] [] (by kernel_rfl) ?_
          refine SimI.done (by kernel_rfl) ?_
          refine SimE.thenN ?_
          refine Sim.cond (r21.2.2 == 0) (by kernel_rfl) ?_ ?_
          · refine Sim.seq ?_
            refine Sim.region0 ?_
            refine SimI.run 5 [(59, .one (.ptr 5 7)), (58, .one (.ptr 5 6)), (57, .one (ls r21.1)), (56, .one (.ptr 5 6))] [(5, some (.cells [li .i64 g10.Kind, li .i64 g10.ID, li .i64 g10.Which, li .i64 g10.To, li .i64 g10.At.X, li .i64 g10.At.Y, li .i64 g10.F.a0.N, ls r21.1, li .i64 g10.F.a1.N, ls g10.F.a1.Text, li .i64 g10.F.a2.N, ls g10.F.a2.Text, li .i64 g10.F.a3.N, ls g10.F.a3.Text, li .i64 g10.Value.N, ls g10.Value.Text, li .i64 g10.Client, li .i64 g10.Session, li .i64 g10.Rect.X0, li .i64 g10.Rect.Y0, li .i64 g10.Rect.X1, li .i64 g10.Rect.Y1]))] (by kernel_rfl) ?_
            refine SimI.done (by kernel_rfl) ?_
            refine SimE.thenN ?_
            refine Sim.region0 ?_
            refine SimI.run 2 [(62, .one (.fn 64 [.ptr 1 0, .ptr 6 0])), (61, .one (.ptr 5 6))] [] (by kernel_rfl) ?_
            refine SimI.bind (og := F64s0 n a0 (IntKind.wrap .i64 (i12 + r21.2.1))) { dst := some 63, op := POp.gcallv false false [1, 6, 300000, 300001, 300002, 300003, 300004, 300005, 300006, 300007] [] (Operand.tmp 62) [], guard := none, hints := [] } (fun r22 => [(63, .tup [.one (li .i64 r22.1), .one (li .i64 r22.2.1)])]) (fun r22 => [(1, some (.cells [ls a0])), (6, some (.cells [li .i64 r22.2.2]))]) (by kernel_rfl) (fun r22 hr => pOp_eff (by kernel_rfl) (by kernel_rfl) (eff_gcallv (ks := [1, 6]) (rks := []) (new := []) (ARGS := [.one (.ptr 1 0), .one (.ptr 6 0)]) (args1 := [.one (.ptr 1 0), .one (.ptr 6 0)]) (args2 := [.one (.ptr 1000000 0), .one (.ptr 1000001 0)]) (os := [.cells [ls a0], .cells [li .i64 (IntKind.wrap .i64 (i12 + r21.2.1))]]) (os' := [.cells [ls a0], .cells [li .i64 r22.2.2]]) (os1 := [.cells [ls a0], .cells [li .i64 r22.2.2]]) (res := .tup [.one (li .i64 r22.1), .one (li .i64 r22.2.1)]) (res1 := .tup [.one (li .i64 r22.1), .one (li .i64 r22.2.1)]) (r := .tup [.one (li .i64 r22.1), .one (li .i64 r22.2.1)]) (N := [(1, some (.cells [ls a0])), (6, some (.cells [li .i64 r22.2.2]))]) (caps := [.ptr 1 0, .ptr 6 0]) (by kernel_rfl) (by kernel_rfl) (readA_ow (readA_keep (by kernel_rfl) (readA_keep (by kernel_rfl) (readA_nil)))) (by kernel_rfl) (by kernel_rfl) (by kernel_rfl) (by kernel_rfl) (F64s0_ok n a0 (IntKind.wrap .i64 (i12 + r21.2.1)) r22 hr) (by kernel_rfl) (by kernel_rfl) (by kernel_rfl) rfl (by kernel_rfl) (by kernel_rfl) (by kernel_rfl))) (fun r22 => ?_)
            refine SimI.run 7 [(15, .one (li .i64 r22.2.1)), (67, .one (.ptr 5 6)), (66, .one (.ptr 5 6)), (65, .one (li .i64 r22.2.1)), (64, .one (li .i64 r22.1)), (60, .tup [.one (li .i64 r22.1), .one (li .i64 r22.2.1)])] [(5, some (.cells [li .i64 g10.Kind, li .i64 g10.ID, li .i64 g10.Which, li .i64 g10.To, li .i64 g10.At.X, li .i64 g10.At.Y, li .i64 r22.1, ls r21.1, li .i64 g10.F.a1.N, ls g10.F.a1.Text, li .i64 g10.F.a2.N, ls g10.F.a2.Text, li .i64 g10.F.a3.N, ls g10.F.a3.Text, li .i64 g10.Value.N, ls g10.Value.Text, li .i64 g10.Client, li .i64 g10.Session, li .i64 g10.Rect.X0, li .i64 g10.Rect.Y0, li .i64 g10.Rect.X1, li .i64 g10.Rect.Y1]))] (by kernel_rfl) ?_
            refine SimI.done (by kernel_rfl) ?_
            refine SimE.thenN ?_
            refine Sim.pre (ts := [1, 2, 5, 6, 7, 15, 37, 38, 39]) (os := [1, 2, 5, 6, 7, 300000]) (ow := []) [(1, .one (.ptr 1 0)), (2, .one (.ptr 2 0)), (5, .one (.ptr 5 0)), (6, .one (.ptr 6 0)), (7, .one (.ptr 7 0)), (15, .one (li .i64 r22.2.1)), (37, .one (.csl 300000 1 0 4)), (38, .one (li .i64 4)), (39, .one (li .i64 0))] [(1, some (.cells [ls a0])), (2, some (.cells [li .i64 0, li .i64 0, li .i64 0, li .i64 0, li .i64 0, li .i64 0, li .i64 0, ls ByteArray.empty, li .i64 0, ls ByteArray.empty, li .i64 0, ls ByteArray.empty, li .i64 0, ls ByteArray.empty, li .i64 0, ls ByteArray.empty, li .i64 0, li .i64 0, li .i64 0, li .i64 0, li .i64 0, li .i64 0])), (5, some (.cells [li .i64 g10.Kind, li .i64 g10.ID, li .i64 g10.Which, li .i64 g10.To, li .i64 g10.At.X, li .i64 g10.At.Y, li .i64 r22.1, ls r21.1, li .i64 g10.F.a1.N, ls g10.F.a1.Text, li .i64 g10.F.a2.N, ls g10.F.a2.Text, li .i64 g10.F.a3.N, ls g10.F.a3.Text, li .i64 g10.Value.N, ls g10.Value.Text, li .i64 g10.Client, li .i64 g10.Session, li .i64 g10.Rect.X0, li .i64 g10.Rect.Y0, li .i64 g10.Rect.X1, li .i64 g10.Rect.Y1])), (6, some (.cells [li .i64 r22.2.2])), (7, some (.cells [.fn 64 [.ptr 1 0, .ptr 6 0]])), (300000, some (.cells [.ptr 5 6, .ptr 5 8, .ptr 5 10, .ptr 5 12]))] (by kernel_rfl) (by kernel_rfl) (by kernel_rfl) ?_
            exact F40_j26_ok n a0 (Command.mk g10.Kind g10.ID g10.Which g10.To g10.At (A4.mk (Field.mk r22.1 r21.1) g10.F.a1 g10.F.a2 g10.F.a3) g10.Value g10.Client g10.Session g10.Rect) r22.2.1 r22.2.2
          · refine Sim.skip ?_
            refine SimE.thenN ?_
            refine Sim.pre (ts := [1, 2, 5, 6, 7, 15, 37, 38, 39]) (os := [1, 2, 5, 6, 7, 300000]) (ow := []) [(1, .one (.ptr 1 0)), (2, .one (.ptr 2 0)), (5, .one (.ptr 5 0)), (6, .one (.ptr 6 0)), (7, .one (.ptr 7 0)), (15, .one (li .i64 r21.2.2)), (37, .one (.csl 300000 1 0 4)), (38, .one (li .i64 4)), (39, .one (li .i64 0))] [(1, some (.cells [ls a0])), (2, some (.cells [li .i64 0, li .i64 0, li .i64 0, li .i64 0, li .i64 0, li .i64 0, li .i64 0, ls ByteArray.empty, li .i64 0, ls ByteArray.empty, li .i64 0, ls ByteArray.empty, li .i64 0, ls ByteArray.empty, li .i64 0, ls ByteArray.empty, li .i64 0, li .i64 0, li .i64 0, li .i64 0, li .i64 0, li .i64 0])), (5, some (.cells (Command.cells g10))), (6, some (.cells [li .i64 (IntKind.wrap .i64 (i12 + r21.2.1))])), (7, some (.cells [.fn 64 [.ptr 1 0, .ptr 6 0]])), (300000, some (.cells [.ptr 5 6, .ptr 5 8, .ptr 5 10, .ptr 5 12]))] (by kernel_rfl) (by kernel_rfl) (by kernel_rfl) ?_
            exact F40_j26_ok n a0 g10 r21.2.2 (IntKind.wrap .i64 (i12 + r21.2.1))
        · refine SimI.ite (c := r14 = 2) (fun cr14 => ?_) (fun _ => ?_)
          · refine SimI.step { dst := some 37, op := POp.gcall false false [5, 300000, 300001, 300002, 300003, 300004, 300005, 300006, 300007] [[]] 57 [Operand.tmp 5], guard := none, hints := [] } [(37, .one (.csl 300000 1 0 1))] [(5, some (.cells (Command.cells g10))), (300000, some (.cells [.ptr 5 14]))] (by kernel_rfl) (pOp_eff (by kernel_rfl) (by kernel_rfl) (eff_gcall (ks := [5]) (rks := []) (new := [300000]) (ARGS := [.one (.ptr 5 0)]) (args1 := [.one (.ptr 5 0)]) (args2 := [.one (.ptr 1000000 0)]) (os := [.cells (Command.cells g10)]) (os' := [.cells (Command.cells g10), .cells [.ptr 1000000 14]]) (os1 := [.cells (Command.cells g10), .cells [.ptr 1000000 14]]) (res := .one (.csl 1000001 1 0 1)) (res1 := .one (.csl 1000001 1 0 1)) (r := .one (.csl 300000 1 0 1)) (N := [(5, some (.cells (Command.cells g10))), (300000, some (.cells [.ptr 5 14]))]) (by kernel_rfl) (readA_ow (readA_keep (by kernel_rfl) (readA_nil))) (by kernel_rfl) (by kernel_rfl) (by kernel_rfl) (by kernel_rfl) ((F57s0_ok n g10 r14 hr14).trans (congrArg some (F57s0_e_2 g10 r14 cr14))) (by kernel_rfl) (by kernel_rfl) (by kernel_rfl) rfl (by kernel_rfl) (by kernel_rfl) (by kernel_rfl))) ?_
            refine SimI.run 2 [(39, .one (li .i64 0)), (38, .one (li .i64 1))] [] (by kernel_rfl) ?_
            refine SimI.done (by kernel_rfl) ?_
            refine SimE.thenN ?_
            refine Sim.block ?_
            refine Sim.loop ?_
            refine SimL.succ ?_
            refine Sim.seq ?_
            refine Sim.region [(1, .one (.ptr 1 0)), (2, .one (.ptr 2 0)), (5, .one (.ptr 5 0)), (6, .one (.ptr 6 0)), (7, .one (.ptr 7 0)), (37, .one (.csl 300000 1 0 1)), (38, .one (li .i64 1)), (39, .one (li .i64 0))] [(1, some (.cells [ls a0])), (2, some (.cells [li .i64 0, li .i64 0, li .i64 0, li .i64 0, li .i64 0, li .i64 0, li .i64 0, ls ByteArray.empty, li .i64 0, ls ByteArray.empty, li .i64 0, ls ByteArray.empty, li .i64 0, ls ByteArray.empty, li .i64 0, ls ByteArray.empty, li .i64 0, li .i64 0, li .i64 0, li .i64 0, li .i64 0, li .i64 0])), (5, some (.cells (Command.cells g10))), (6, some (.cells [li .i64 i12])), (7, some (.cells [.fn 64 [.ptr 1 0, .ptr 6 0]])), (300000, some (.cells [.ptr 5 14]))] (by kernel_rfl) ?_
            refine SimI.run 1 [(40, .one (lb true))] [] (by kernel_rfl) ?_
            refine SimI.done (by kernel_rfl) ?_
            refine SimE.thenN ?_
            refine Sim.seq ?_
            refine Sim.condT (by kernel_rfl) ?_
            refine Sim.skip ?_
            refine SimE.thenN ?_
            refine Sim.seq ?_
            refine Sim.block ?_
            refine Sim.seq ?_
            refine Sim.region0 ?_
            refine SimI.run 3 [(12, .one (.ptr 5 14)), (42, .one (.ptr 5 14)), (41, .one (.ptr 300000 0))] [] (by kernel_rfl) ?_
            refine SimI.done (by kernel_rfl) ?_
            refine SimE.thenN ?_
            refine Sim.seq ?_
            refine Sim.region0 ?_
            refine SimI.run 2 [(45, .one (li .i64 i12)), (44, .one (ls a0))] [] (by kernel_rfl) ?_
            refine SimI.guard (c := 0 ≤ (i12 : Int) ∧ (i12 : Int) ≤ (a0.size : Int)) { dst := some 46, op := POp.prim (Prim.slice 9 true false) [Operand.tmp 44, Operand.tmp 45], guard := none, hints := [] } [(46, .one (ls (a0.extract i12.toNat a0.size)))] [] (by kernel_rfl) (fun hc => pOp_eff (by kernel_rfl) (by kernel_rfl) (eff_prim (by kernel_rfl) (pr_cutL (s := a0) (k := .i64) (a := i12) Try.underlying9 hc))) ?_
            refine SimI.bind (og := F67 n (a0.extract i12.toNat a0.size) 12) { dst := some 47, op := POp.call true [[], []] 67 [Operand.tmp 46, Operand.const (Value.int IntKind.i64 12)], guard := none, hints := [] } (fun r15 => [(47, .tup [.one (ls r15.1), .one (li .i64 r15.2.1), .one (li .i64 r15.2.2)])]) (fun r15 => []) (by kernel_rfl) (fun r15 hr => pOp_eff (by kernel_rfl) (by kernel_rfl) (eff_call (ARGS := [.one (ls (a0.extract i12.toNat a0.size)), .one (li .i64 12)]) (by kernel_rfl) (args_clean (by kernel_rfl) (args_clean (by kernel_rfl) args_nil)) (F67_ok n (a0.extract i12.toNat a0.size) 12 r15 hr) (by kernel_rfl))) (fun r15 => ?_)
            refine SimI.run 7 [(15, .one (li .i64 r15.2.2)), (14, .one (li .i64 r15.2.1)), (13, .one (ls r15.1)), (50, .one (li .i64 r15.2.2)), (49, .one (li .i64 r15.2.1)), (48, .one (ls r15.1)), (43, .tup [.one (ls r15.1), .one (li .i64 r15.2.1), .one (li .i64 r15.2.2)])] [] (by kernel_rfl) ?_
            refine SimI.done (by kernel_rfl) ?_
            refine SimE.thenN ?_
            refine Sim.seq ?_
            refine Sim.region0 ?_
            refine SimI.run 4 [(53, .one (li .i64 (IntKind.wrap .i64 (i12 + r15.2.1)))), (52, .one (li .i64 r15.2.1)), (51, .one (li .i64 i12))] [(6, some (.cells [li .i64 (IntKind.wrap .i64 (i12 + r15.2.1))]))] (by kernel_rfl) ?_
            refine SimI.done (by kernel_rfl) ?_
            refine SimE.thenN ?_
            refine Sim.seq ?_
            refine Sim.seq ?_
            refine Sim.region0 ?_
            refine SimI.run 2 [(55, .one (lb (r15.2.2 == 0))), (54, .one (li .i64 r15.2.2))] [] (by kernel_rfl) ?_
            refine SimI.done (by kernel_rfl) ?_
            refine SimE.thenN ?_
            refine Sim.cond (r15.2.2 == 0) (by kernel_rfl) ?_ ?_
            · refine Sim.seq ?_
              refine Sim.region0 ?_
              refine SimI.run 5 [(59, .one (.ptr 5 15)), (58, .one (.ptr 5 14)), (57, .one (ls r15.1)), (56, .one (.ptr 5 14))] [(5, some (.cells [li .i64 g10.Kind, li .i64 g10.ID, li .i64 g10.Which, li .i64 g10.To, li .i64 g10.At.X, li .i64 g10.At.Y, li .i64 g10.F.a0.N, ls g10.F.a0.Text, li .i64 g10.F.a1.N, ls g10.F.a1.Text, li .i64 g10.F.a2.N, ls g10.F.a2.Text, li .i64 g10.F.a3.N, ls g10.F.a3.Text, li .i64 g10.Value.N, ls r15.1, li .i64 g10.Client, li .i64 g10.Session, li .i64 g10.Rect.X0, li .i64 g10.Rect.Y0, li .i64 g10.Rect.X1, li .i64 g10.Rect.Y1]))] (by kernel_rfl) ?_
              refine SimI.done (by kernel_rfl) ?_
              refine SimE.thenN ?_
              refine Sim.region0 ?_
              refine SimI.run 2 [(62, .one (.fn 64 [.ptr 1 0, .ptr 6 0])), (61, .one (.ptr 5 14))] [] (by kernel_rfl) ?_
              refine SimI.bind (og := F64s0 n a0 (IntKind.wrap .i64 (i12 + r15.2.1))) { dst := some 63, op := POp.gcallv false false [1, 6, 300000, 300001, 300002, 300003, 300004, 300005, 300006, 300007] [] (Operand.tmp 62) [], guard := none, hints := [] } (fun r16 => [(63, .tup [.one (li .i64 r16.1), .one (li .i64 r16.2.1)])]) (fun r16 => [(1, some (.cells [ls a0])), (6, some (.cells [li .i64 r16.2.2]))]) (by kernel_rfl) (fun r16 hr => pOp_eff (by kernel_rfl) (by kernel_rfl) (eff_gcallv (ks := [1, 6]) (rks := []) (new := []) (ARGS := [.one (.ptr 1 0), .one (.ptr 6 0)]) (args1 := [.one (.ptr 1 0), .one (.ptr 6 0)]) (args2 := [.one (.ptr 1000000 0), .one (.ptr 1000001 0)]) (os := [.cells [ls a0], .cells [li .i64 (IntKind.wrap .i64 (i12 + r15.2.1))]]) (os' := [.cells [ls a0], .cells [li .i64 r16.2.2]]) (os1 := [.cells [ls a0], .cells [li .i64 r16.2.2]]) (res := .tup [.one (li .i64 r16.1), .one (li .i64 r16.2.1)]) (res1 := .tup [.one (li .i64 r16.1), .one (li .i64 r16.2.1)]) (r := .tup [.one (li .i64 r16.1), .one (li .i64 r16.2.1)]) (N := [(1, some (.cells [ls a0])), (6, some (.cells [li .i64 r16.2.2]))]) (caps := [.ptr 1 0, .ptr 6 0]) (by kernel_rfl) (by kernel_rfl) (readA_ow (readA_keep (by kernel_rfl) (readA_keep (by kernel_rfl) (readA_nil)))) (by kernel_rfl) (by kernel_rfl) (by kernel_rfl) (by kernel_rfl) (F64s0_ok n a0 (IntKind.wrap .i64 (i12 + r15.2.1)) r16 hr) (by kernel_rfl) (by kernel_rfl) (by kernel_rfl) rfl (by kernel_rfl) (by kernel_rfl) (by kernel_rfl))) (fun r16 => ?_)
              refine SimI.run 7 [(15, .one (li .i64 r16.2.1)), (67, .one (.ptr 5 14)), (66, .one (.ptr 5 14)), (65, .one (li .i64 r16.2.1)), (64, .one (li .i64 r16.1)), (60, .tup [.one (li .i64 r16.1), .one (li .i64 r16.2.1)])] [(5, some (.cells [li .i64 g10.Kind, li .i64 g10.ID, li .i64 g10.Which, li .i64 g10.To, li .i64 g10.At.X, li .i64 g10.At.Y, li .i64 g10.F.a0.N, ls g10.F.a0.Text, li .i64 g10.F.a1.N, ls g10.F.a1.Text, li .i64 g10.F.a2.N, ls g10.F.a2.Text, li .i64 g10.F.a3.N, ls g10.F.a3.Text, li .i64 r16.1, ls r15.1, li .i64 g10.Client, li .i64 g10.Session, li .i64 g10.Rect.X0, li .i64 g10.Rect.Y0, li .i64 g10.Rect.X1, li .i64 g10.Rect.Y1]))] (by kernel_rfl) ?_
              refine SimI.done (by kernel_rfl) ?_
              refine SimE.thenN ?_
              refine Sim.pre (ts := [1, 2, 5, 6, 7, 15, 37, 38, 39]) (os := [1, 2, 5, 6, 7, 300000]) (ow := []) [(1, .one (.ptr 1 0)), (2, .one (.ptr 2 0)), (5, .one (.ptr 5 0)), (6, .one (.ptr 6 0)), (7, .one (.ptr 7 0)), (15, .one (li .i64 r16.2.1)), (37, .one (.csl 300000 1 0 1)), (38, .one (li .i64 1)), (39, .one (li .i64 0))] [(1, some (.cells [ls a0])), (2, some (.cells [li .i64 0, li .i64 0, li .i64 0, li .i64 0, li .i64 0, li .i64 0, li .i64 0, ls ByteArray.empty, li .i64 0, ls ByteArray.empty, li .i64 0, ls ByteArray.empty, li .i64 0, ls ByteArray.empty, li .i64 0, ls ByteArray.empty, li .i64 0, li .i64 0, li .i64 0, li .i64 0, li .i64 0, li .i64 0])), (5, some (.cells [li .i64 g10.Kind, li .i64 g10.ID, li .i64 g10.Which, li .i64 g10.To, li .i64 g10.At.X, li .i64 g10.At.Y, li .i64 g10.F.a0.N, ls g10.F.a0.Text, li .i64 g10.F.a1.N, ls g10.F.a1.Text, li .i64 g10.F.a2.N, ls g10.F.a2.Text, li .i64 g10.F.a3.N, ls g10.F.a3.Text, li .i64 r16.1, ls r15.1, li .i64 g10.Client, li .i64 g10.Session, li .i64 g10.Rect.X0, li .i64 g10.Rect.Y0, li .i64 g10.Rect.X1, li .i64 g10.Rect.Y1])), (6, some (.cells [li .i64 r16.2.2])), (7, some (.cells [.fn 64 [.ptr 1 0, .ptr 6 0]])), (300000, some (.cells [.ptr 5 14]))] (by kernel_rfl) (by kernel_rfl) (by kernel_rfl) ?_
              exact F40_j20_ok n a0 (Command.mk g10.Kind g10.ID g10.Which g10.To g10.At g10.F (Field.mk r16.1 r15.1) g10.Client g10.Session g10.Rect) r16.2.1 r16.2.2
            · refine Sim.skip ?_
              refine SimE.thenN ?_
              refine Sim.pre (ts := [1, 2, 5, 6, 7, 15, 37, 38, 39]) (os := [1, 2, 5, 6, 7, 300000]) (ow := []) [(1, .one (.ptr 1 0)), (2, .one (.ptr 2 0)), (5, .one (.ptr 5 0)), (6, .one (.ptr 6 0)), (7, .one (.ptr 7 0)), (15, .one (li .i64 r15.2.2)), (37, .one (.csl 300000 1 0 1)), (38, .one (li .i64 1)), (39, .one (li .i64 0))] [(1, some (.cells [ls a0])), (2, some (.cells [li .i64 0, li .i64 0, li .i64 0, li .i64 0, li .i64 0, li .i64 0, li .i64 0, ls ByteArray.empty, li .i64 0, ls ByteArray.empty, li .i64 0, ls ByteArray.empty, li .i64 0, ls ByteArray.empty, li .i64 0, ls ByteArray.empty, li .i64 0, li .i64 0, li .i64 0, li .i64 0, li .i64 0, li .i64 0])), (5, some (.cells (Command.cells g10))), (6, some (.cells [li .i64 (IntKind.wrap .i64 (i12 + r15.2.1))])), (7, some (.cells [.fn 64 [.ptr 1 0, .ptr 6 0]])), (300000, some (.cells [.ptr 5 14]))] (by kernel_rfl) (by kernel_rfl) (by kernel_rfl) ?_
              exact F40_j20_ok n a0 g10 r15.2.2 (IntKind.wrap .i64 (i12 + r15.2.1))
          · exact SimI.vac rfl

def F40 (n : Nat) (a0 : ByteArray) : Option (Command × Int × Int) :=
  (F66s0 n (Command.mk 0 0 0 0 (Point.mk 0 0) (A4.mk (Field.mk 0 ByteArray.empty) (Field.mk 0 ByteArray.empty) (Field.mk 0 ByteArray.empty) (Field.mk 0 ByteArray.empty)) (Field.mk 0 ByteArray.empty) 0 0 (Rect.mk 0 0 0 0)) a0 0).bind fun (r1 : (Int × Command × Int)) =>
  if r1.1 != 0 then
    some ((Command.mk 0 0 0 0 (Point.mk 0 0) (A4.mk (Field.mk 0 ByteArray.empty) (Field.mk 0 ByteArray.empty) (Field.mk 0 ByteArray.empty) (Field.mk 0 ByteArray.empty)) (Field.mk 0 ByteArray.empty) 0 0 (Rect.mk 0 0 0 0)), 0, r1.1)
  else
    (F56s0 n r1.2.1).bind fun (r2 : Nat) =>
    if r2 = 0 then
      (F66s7 n a0 r1.2.2).bind fun (r9 : Unit) =>
      F40_j13 n a0 r1.2.1 0 r1.2.2
    else
      if r2 = 1 then
        (F66s6 n r1.2.1 a0 r1.2.2).bind fun (r8 : (Int × Command × Int)) =>
        F40_j13 n a0 r8.2.1 r8.1 r8.2.2
      else
        if r2 = 2 then
          (F66s5 n r1.2.1 a0 r1.2.2).bind fun (r7 : (Int × Command × Int)) =>
          F40_j13 n a0 r7.2.1 r7.1 r7.2.2
        else
          if r2 = 3 then
            (F66s4 n r1.2.1 a0 r1.2.2).bind fun (r6 : (Int × Command × Int)) =>
            F40_j13 n a0 r6.2.1 r6.1 r6.2.2
          else
            if r2 = 4 then
              (F66s3 n r1.2.1 a0 r1.2.2).bind fun (r5 : (Int × Command × Int)) =>
              F40_j13 n a0 r5.2.1 r5.1 r5.2.2
            else
              if r2 = 5 then
                (F66s2 n r1.2.1 a0 r1.2.2).bind fun (r4 : (Int × Command × Int)) =>
                F40_j13 n a0 r4.2.1 r4.1 r4.2.2
              else
                if r2 = 6 then
                  (F66s1 n r1.2.1 a0 r1.2.2).bind fun (r3 : (Int × Command × Int)) =>
                  F40_j13 n a0 r3.2.1 r3.1 r3.2.2
                else
                  none
theorem F40_ok (n : Nat) (a0 : ByteArray) : ∀ r, F40 n a0 = some r → D 40 [.one (ls a0)] [] = some (F40_e r) := by
  refine fn_to (D := D) (n := n + 8) (nt := 90) (rs := pc40_r) (c := pc40_c78) (L := [(0, .one (ls a0))]) (M := []) (k := 0) rfl rfl rfl rfl rfl rfl rfl ?_
  unfold F40
  refine Sim.seq ?_
  refine Sim.region0 ?_
  refine SimI.run 4 [(4, .one (li .i64 0)), (3, .one (li .i64 0)), (2, .one (.ptr 2 0)), (1, .one (.ptr 1 0))] [(2, some (.cells [li .i64 0, li .i64 0, li .i64 0, li .i64 0, li .i64 0, li .i64 0, li .i64 0, ls ByteArray.empty, li .i64 0, ls ByteArray.empty, li .i64 0, ls ByteArray.empty, li .i64 0, ls ByteArray.empty, li .i64 0, ls ByteArray.empty, li .i64 0, li .i64 0, li .i64 0, li .i64 0, li .i64 0, li .i64 0])), (1, some (.cells [ls a0]))] (by kernel_rfl) ?_
  refine SimI.done (by kernel_rfl) ?_
  refine SimE.thenN ?_
  refine Sim.seq ?_
  refine Sim.region0 ?_
  refine SimI.run 1 [(5, .one (.ptr 5 0))] [(5, some (.cells [li .i64 0, li .i64 0, li .i64 0, li .i64 0, li .i64 0, li .i64 0, li .i64 0, ls ByteArray.empty, li .i64 0, ls ByteArray.empty, li .i64 0, ls ByteArray.empty, li .i64 0, ls ByteArray.empty, li .i64 0, ls ByteArray.empty, li .i64 0, li .i64 0, li .i64 0, li .i64 0, li .i64 0, li .i64 0]))] (by kernel_rfl) ?_
  refine SimI.done (by kernel_rfl) ?_
  refine SimE.thenN ?_
  refine Sim.seq ?_
  refine Sim.region0 ?_
  refine SimI.run 2 [(6, .one (.ptr 6 0))] [(6, some (.cells [li .i64 0])), (6, some (.cells [li .i64 0]))] (by kernel_rfl) ?_
  refine SimI.done (by kernel_rfl) ?_
  refine SimE.thenN ?_
  refine Sim.seq ?_
  refine Sim.region0 ?_
  refine SimI.run 3 [(7, .one (.ptr 7 0)), (18, .one (.fn 64 [.ptr 1 0, .ptr 6 0]))] [(7, some (.cells [.fn 64 [.ptr 1 0, .ptr 6 0]])), (7, some (.cells [.val (.nilFunc)]))] (by kernel_rfl) ?_
  refine SimI.done (by kernel_rfl) ?_
  refine SimE.thenN ?_
  refine Sim.seq ?_
  refine Sim.region0 ?_
  refine SimI.run 2 [(8, .one (.fn 66 [.ptr 7 0])), (19, .one (.fn 66 [.ptr 7 0]))] [] (by kernel_rfl) ?_
  refine SimI.done (by kernel_rfl) ?_
  refine SimE.thenN ?_
  refine Sim.seq ?_
  refine Sim.seq ?_
  refine Sim.region0 ?_
  refine SimI.run 5 [(24, .one (.csl 24 1 0 3)), (23, .one (.ptr 5 17)), (22, .one (.ptr 5 16)), (21, .one (.ptr 5 0)), (20, .one (.fn 66 [.ptr 7 0]))] [(24, some (.cells [.ptr 5 0, .ptr 5 16, .ptr 5 17]))] (by kernel_rfl) ?_
  refine SimI.bind (og := F66s0 n (Command.mk 0 0 0 0 (Point.mk 0 0) (A4.mk (Field.mk 0 ByteArray.empty) (Field.mk 0 ByteArray.empty) (Field.mk 0 ByteArray.empty) (Field.mk 0 ByteArray.empty)) (Field.mk 0 ByteArray.empty) 0 0 (Rect.mk 0 0 0 0)) a0 0) { dst := some 25, op := POp.gcallv false false [1, 5, 6, 7, 24, 300000, 300001, 300002, 300003, 300004, 300005, 300006, 300007] [[(0, 1)]] (Operand.tmp 20) [Operand.tmp 24], guard := none, hints := [] } (fun r1 => [(25, .one (li .i64 r1.1))]) (fun r1 => [(24, some (.cells [.ptr 5 0, .ptr 5 16, .ptr 5 17])), (5, some (.cells (Command.cells r1.2.1))), (7, some (.cells [.fn 64 [.ptr 1 0, .ptr 6 0]])), (1, some (.cells [ls a0])), (6, some (.cells [li .i64 r1.2.2]))]) (by kernel_rfl) (fun r1 hr => pOp_eff (by kernel_rfl) (by kernel_rfl) (eff_gcallv (ks := [24, 5, 7, 1, 6]) (rks := []) (new := []) (ARGS := [.one (.csl 24 1 0 3), .one (.ptr 7 0)]) (args1 := [.one (.csl 24 1 0 3), .one (.ptr 7 0)]) (args2 := [.one (.csl 1000000 1 0 3), .one (.ptr 1000002 0)]) (os := [.cells [.ptr 1000001 0, .ptr 1000001 16, .ptr 1000001 17], .cells [li .i64 0, li .i64 0, li .i64 0, li .i64 0, li .i64 0, li .i64 0, li .i64 0, ls ByteArray.empty, li .i64 0, ls ByteArray.empty, li .i64 0, ls ByteArray.empty, li .i64 0, ls ByteArray.empty, li .i64 0, ls ByteArray.empty, li .i64 0, li .i64 0, li .i64 0, li .i64 0, li .i64 0, li .i64 0], .cells [.fn 64 [.ptr 1000003 0, .ptr 1000004 0]], .cells [ls a0], .cells [li .i64 0]]) (os' := [.cells [.ptr 1000001 0, .ptr 1000001 16, .ptr 1000001 17], .cells (Command.cells r1.2.1), .cells [.fn 64 [.ptr 1000003 0, .ptr 1000004 0]], .cells [ls a0], .cells [li .i64 r1.2.2]]) (os1 := [.cells [.ptr 1000001 0, .ptr 1000001 16, .ptr 1000001 17], .cells (Command.cells r1.2.1), .cells [.fn 64 [.ptr 1000003 0, .ptr 1000004 0]], .cells [ls a0], .cells [li .i64 r1.2.2]]) (res := .one (li .i64 r1.1)) (res1 := .one (li .i64 r1.1)) (r := .one (li .i64 r1.1)) (N := [(24, some (.cells [.ptr 5 0, .ptr 5 16, .ptr 5 17])), (5, some (.cells (Command.cells r1.2.1))), (7, some (.cells [.fn 64 [.ptr 1 0, .ptr 6 0]])), (1, some (.cells [ls a0])), (6, some (.cells [li .i64 r1.2.2]))]) (caps := [.ptr 7 0]) (by kernel_rfl) (by kernel_rfl) (readA_ow (readA_keep (by kernel_rfl) (readA_keep (by kernel_rfl) (readA_nil)))) (by kernel_rfl) (by kernel_rfl) (by kernel_rfl) (by kernel_rfl) (F66s0_ok n (Command.mk 0 0 0 0 (Point.mk 0 0) (A4.mk (Field.mk 0 ByteArray.empty) (Field.mk 0 ByteArray.empty) (Field.mk 0 ByteArray.empty) (Field.mk 0 ByteArray.empty)) (Field.mk 0 ByteArray.empty) 0 0 (Rect.mk 0 0 0 0)) a0 0 r1 hr) (by kernel_rfl) (by kernel_rfl) (by kernel_rfl) rfl (by kernel_rfl) (by kernel_rfl) (by kernel_rfl))) (fun r1 => ?_)
  refine SimI.run 1 [(9, .one (li .i64 r1.1))] [] (by kernel_rfl) ?_
  refine SimI.done (by kernel_rfl) ?_
  refine SimE.thenN ?_
  refine Sim.seq ?_
  refine Sim.region0 ?_
  refine SimI.run 2 [(27, .one (lb (r1.1 != 0))), (26, .one (li .i64 r1.1))] [] (by kernel_rfl) ?_
  refine SimI.done (by kernel_rfl) ?_
  refine SimE.thenN ?_
  refine Sim.cond (r1.1 != 0) (by kernel_rfl) ?_ ?_
  · refine Sim.seq ?_
    refine Sim.region0 ?_
    refine SimI.run 5 [(4, .one (li .i64 r1.1)), (3, .one (li .i64 0)), (29, .one (li .i64 r1.1)), (28, .agg [li .i64 0, li .i64 0, li .i64 0, li .i64 0, li .i64 0, li .i64 0, li .i64 0, ls ByteArray.empty, li .i64 0, ls ByteArray.empty, li .i64 0, ls ByteArray.empty, li .i64 0, ls ByteArray.empty, li .i64 0, ls ByteArray.empty, li .i64 0, li .i64 0, li .i64 0, li .i64 0, li .i64 0, li .i64 0])] [(2, some (.cells [li .i64 0, li .i64 0, li .i64 0, li .i64 0, li .i64 0, li .i64 0, li .i64 0, ls ByteArray.empty, li .i64 0, ls ByteArray.empty, li .i64 0, ls ByteArray.empty, li .i64 0, ls ByteArray.empty, li .i64 0, ls ByteArray.empty, li .i64 0, li .i64 0, li .i64 0, li .i64 0, li .i64 0, li .i64 0]))] (by kernel_rfl) ?_
    refine SimI.done (by kernel_rfl) ?_
    refine SimE.thenN ?_
    refine Sim.ret ?_
    refine SimE.thenR ?_
    exact SimE.fin (by kernel_rfl)
  · refine Sim.skip ?_
    refine SimE.thenN ?_
    refine Sim.seq ?_
    refine Sim.seq ?_
    refine Sim.region0 ?_
    refine SimI.run 1 [(30, .one (.fn 66 [.ptr 7 0]))] [] (by kernel_rfl) ?_
    refine SimI.open (og := F56s0 n r1.2.1) (fun r2 hr2 => ?_)
    refine SimI.ite (c := r2 = 0) (fun cr2 => ?_) (fun _ => ?_)
    · refine SimI.step { dst := some 31, op := POp.gcall false false [5, 300000, 300001, 300002, 300003, 300004, 300005, 300006, 300007] [[]] 56 [Operand.tmp 5], guard := none, hints := [] } [(31, .one (.view 1 0 fun _ => []))] [(5, some (.cells (Command.cells r1.2.1)))] (by kernel_rfl) (pOp_eff (by kernel_rfl) (by kernel_rfl) (eff_gcall (ks := [5]) (rks := []) (new := []) (ARGS := [.one (.ptr 5 0)]) (args1 := [.one (.ptr 5 0)]) (args2 := [.one (.ptr 1000000 0)]) (os := [.cells (Command.cells r1.2.1)]) (os' := [.cells (Command.cells r1.2.1)]) (os1 := [.cells (Command.cells r1.2.1)]) (res := .one (.view 1 0 fun _ => [])) (res1 := .one (.view 1 0 fun _ => [])) (r := .one (.view 1 0 fun _ => [])) (N := [(5, some (.cells (Command.cells r1.2.1)))]) (by kernel_rfl) (readA_ow (readA_keep (by kernel_rfl) (readA_nil))) (by kernel_rfl) (by kernel_rfl) (by kernel_rfl) (by kernel_rfl) ((F56s0_ok n r1.2.1 r2 hr2).trans (congrArg some (F56s0_e_0 r1.2.1 r2 cr2))) (by kernel_rfl) (by kernel_rfl) (by kernel_rfl) rfl (by kernel_rfl) (by kernel_rfl) (by kernel_rfl))) ?_
      refine SimI.bind (og := F66s7 n a0 r1.2.2) { dst := some 32, op := POp.gcallv false false [1, 5, 6, 7, 300000, 300001, 300002, 300003, 300004, 300005, 300006, 300007] [[(0, 1)]] (Operand.tmp 30) [Operand.tmp 31], guard := none, hints := [] } (fun r9 => [(32, .one (li .i64 0))]) (fun r9 => [(7, some (.cells [.fn 64 [.ptr 1 0, .ptr 6 0]])), (1, some (.cells [ls a0])), (6, some (.cells [li .i64 r1.2.2]))]) (by kernel_rfl) (fun r9 hr => pOp_eff (by kernel_rfl) (by kernel_rfl) (eff_gcallv (ks := [7, 1, 6]) (rks := []) (new := []) (ARGS := [.one (.view 1 0 fun _ => []), .one (.ptr 7 0)]) (args1 := [.one (.view 1 0 fun _ => []), .one (.ptr 7 0)]) (args2 := [.one (.view 1 0 fun _ => []), .one (.ptr 1000000 0)]) (os := [.cells [.fn 64 [.ptr 1000001 0, .ptr 1000002 0]], .cells [ls a0], .cells [li .i64 r1.2.2]]) (os' := [.cells [.fn 64 [.ptr 1000001 0, .ptr 1000002 0]], .cells [ls a0], .cells [li .i64 r1.2.2]]) (os1 := [.cells [.fn 64 [.ptr 1000001 0, .ptr 1000002 0]], .cells [ls a0], .cells [li .i64 r1.2.2]]) (res := .one (li .i64 0)) (res1 := .one (li .i64 0)) (r := .one (li .i64 0)) (N := [(7, some (.cells [.fn 64 [.ptr 1 0, .ptr 6 0]])), (1, some (.cells [ls a0])), (6, some (.cells [li .i64 r1.2.2]))]) (caps := [.ptr 7 0]) (by kernel_rfl) (by kernel_rfl) (readA_ow (readA_keep (by kernel_rfl) (readA_keep (by kernel_rfl) (readA_nil)))) (by kernel_rfl) (by kernel_rfl) (by kernel_rfl) (by kernel_rfl) (F66s7_ok n a0 r1.2.2 r9 hr) (by kernel_rfl) (by kernel_rfl) (by kernel_rfl) rfl (by kernel_rfl) (by kernel_rfl) (by kernel_rfl))) (fun r9 => ?_)
      refine SimI.run 1 [(10, .one (li .i64 0))] [] (by kernel_rfl) ?_
      refine SimI.done (by kernel_rfl) ?_
      refine SimE.thenN ?_
      refine Sim.pre (ts := [1, 2, 5, 6, 7, 10]) (os := [1, 2, 5, 6, 7, 24, 300000]) (ow := []) [(1, .one (.ptr 1 0)), (2, .one (.ptr 2 0)), (5, .one (.ptr 5 0)), (6, .one (.ptr 6 0)), (7, .one (.ptr 7 0)), (10, .one (li .i64 0))] [(1, some (.cells [ls a0])), (2, some (.cells [li .i64 0, li .i64 0, li .i64 0, li .i64 0, li .i64 0, li .i64 0, li .i64 0, ls ByteArray.empty, li .i64 0, ls ByteArray.empty, li .i64 0, ls ByteArray.empty, li .i64 0, ls ByteArray.empty, li .i64 0, ls ByteArray.empty, li .i64 0, li .i64 0, li .i64 0, li .i64 0, li .i64 0, li .i64 0])), (5, some (.cells (Command.cells r1.2.1))), (6, some (.cells [li .i64 r1.2.2])), (7, some (.cells [.fn 64 [.ptr 1 0, .ptr 6 0]]))] (by kernel_rfl) (by kernel_rfl) (by kernel_rfl) ?_
      exact F40_j13_ok n a0 r1.2.1 0 r1.2.2
    · refine SimI.ite (c := r2 = 1) (fun cr2 => ?_) (fun _ => ?_)
      · refine SimI.step { dst := some 31, op := POp.gcall false false [5, 300000, 300001, 300002, 300003, 300004, 300005, 300006, 300007] [[]] 56 [Operand.tmp 5], guard := none, hints := [] } [(31, .one (.csl 300000 1 0 2))] [(5, some (.cells (Command.cells r1.2.1))), (300000, some (.cells [.ptr 5 4, .ptr 5 5]))] (by kernel_rfl) (pOp_eff (by kernel_rfl) (by kernel_rfl) (eff_gcall (ks := [5]) (rks := []) (new := [300000]) (ARGS := [.one (.ptr 5 0)]) (args1 := [.one (.ptr 5 0)]) (args2 := [.one (.ptr 1000000 0)]) (os := [.cells (Command.cells r1.2.1)]) (os' := [.cells (Command.cells r1.2.1), .cells [.ptr 1000000 4, .ptr 1000000 5]]) (os1 := [.cells (Command.cells r1.2.1), .cells [.ptr 1000000 4, .ptr 1000000 5]]) (res := .one (.csl 1000001 1 0 2)) (res1 := .one (.csl 1000001 1 0 2)) (r := .one (.csl 300000 1 0 2)) (N := [(5, some (.cells (Command.cells r1.2.1))), (300000, some (.cells [.ptr 5 4, .ptr 5 5]))]) (by kernel_rfl) (readA_ow (readA_keep (by kernel_rfl) (readA_nil))) (by kernel_rfl) (by kernel_rfl) (by kernel_rfl) (by kernel_rfl) ((F56s0_ok n r1.2.1 r2 hr2).trans (congrArg some (F56s0_e_1 r1.2.1 r2 cr2))) (by kernel_rfl) (by kernel_rfl) (by kernel_rfl) rfl (by kernel_rfl) (by kernel_rfl) (by kernel_rfl))) ?_
        refine SimI.bind (og := F66s6 n r1.2.1 a0 r1.2.2) { dst := some 32, op := POp.gcallv false false [1, 5, 6, 7, 300000, 300001, 300002, 300003, 300004, 300005, 300006, 300007] [[(0, 1)]] (Operand.tmp 30) [Operand.tmp 31], guard := none, hints := [] } (fun r8 => [(32, .one (li .i64 r8.1))]) (fun r8 => [(300000, some (.cells [.ptr 5 4, .ptr 5 5])), (5, some (.cells (Command.cells r8.2.1))), (7, some (.cells [.fn 64 [.ptr 1 0, .ptr 6 0]])), (1, some (.cells [ls a0])), (6, some (.cells [li .i64 r8.2.2]))]) (by kernel_rfl) (fun r8 hr => pOp_eff (by kernel_rfl) (by kernel_rfl) (eff_gcallv (ks := [300000, 5, 7, 1, 6]) (rks := []) (new := []) (ARGS := [.one (.csl 300000 1 0 2), .one (.ptr 7 0)]) (args1 := [.one (.csl 300000 1 0 2), .one (.ptr 7 0)]) (args2 := [.one (.csl 1000000 1 0 2), .one (.ptr 1000002 0)]) (os := [.cells [.ptr 1000001 4, .ptr 1000001 5], .cells (Command.cells r1.2.1), .cells [.fn 64 [.ptr 1000003 0, .ptr 1000004 0]], .cells [ls a0], .cells [li .i64 r1.2.2]]) (os' := [.cells [.ptr 1000001 4, .ptr 1000001 5], .cells (Command.cells r8.2.1), .cells [.fn 64 [.ptr 1000003 0, .ptr 1000004 0]], .cells [ls a0], .cells [li .i64 r8.2.2]]) (os1 := [.cells [.ptr 1000001 4, .ptr 1000001 5], .cells (Command.cells r8.2.1), .cells [.fn 64 [.ptr 1000003 0, .ptr 1000004 0]], .cells [ls a0], .cells [li .i64 r8.2.2]]) (res := .one (li .i64 r8.1)) (res1 := .one (li .i64 r8.1)) (r := .one (li .i64 r8.1)) (N := [(300000, some (.cells [.ptr 5 4, .ptr 5 5])), (5, some (.cells (Command.cells r8.2.1))), (7, some (.cells [.fn 64 [.ptr 1 0, .ptr 6 0]])), (1, some (.cells [ls a0])), (6, some (.cells [li .i64 r8.2.2]))]) (caps := [.ptr 7 0]) (by kernel_rfl) (by kernel_rfl) (readA_ow (readA_keep (by kernel_rfl) (readA_keep (by kernel_rfl) (readA_nil)))) (by kernel_rfl) (by kernel_rfl) (by kernel_rfl) (by kernel_rfl) (F66s6_ok n r1.2.1 a0 r1.2.2 r8 hr) (by kernel_rfl) (by kernel_rfl) (by kernel_rfl) rfl (by kernel_rfl) (by kernel_rfl) (by kernel_rfl))) (fun r8 => ?_)
        refine SimI.run 1 [(10, .one (li .i64 r8.1))] [] (by kernel_rfl) ?_
        refine SimI.done (by kernel_rfl) ?_
        refine SimE.thenN ?_
        refine Sim.pre (ts := [1, 2, 5, 6, 7, 10]) (os := [1, 2, 5, 6, 7, 24, 300000]) (ow := []) [(1, .one (.ptr 1 0)), (2, .one (.ptr 2 0)), (5, .one (.ptr 5 0)), (6, .one (.ptr 6 0)), (7, .one (.ptr 7 0)), (10, .one (li .i64 r8.1))] [(1, some (.cells [ls a0])), (2, some (.cells [li .i64 0, li .i64 0, li .i64 0, li .i64 0, li .i64 0, li .i64 0, li .i64 0, ls ByteArray.empty, li .i64 0, ls ByteArray.empty, li .i64 0, ls ByteArray.empty, li .i64 0, ls ByteArray.empty, li .i64 0, ls ByteArray.empty, li .i64 0, li .i64 0, li .i64 0, li .i64 0, li .i64 0, li .i64 0])), (5, some (.cells (Command.cells r8.2.1))), (6, some (.cells [li .i64 r8.2.2])), (7, some (.cells [.fn 64 [.ptr 1 0, .ptr 6 0]]))] (by kernel_rfl) (by kernel_rfl) (by kernel_rfl) ?_
        exact F40_j13_ok n a0 r8.2.1 r8.1 r8.2.2
      · refine SimI.ite (c := r2 = 2) (fun cr2 => ?_) (fun _ => ?_)
        · refine SimI.step { dst := some 31, op := POp.gcall false false [5, 300000, 300001, 300002, 300003, 300004, 300005, 300006, 300007] [[]] 56 [Operand.tmp 5], guard := none, hints := [] } [(31, .one (.csl 300000 1 0 3))] [(5, some (.cells (Command.cells r1.2.1))), (300000, some (.cells [.ptr 5 1, .ptr 5 4, .ptr 5 5]))] (by kernel_rfl) (pOp_eff (by kernel_rfl) (by kernel_rfl) (eff_gcall (ks := [5]) (rks := []) (new := [300000]) (ARGS := [.one (.ptr 5 0)]) (args1 := [.one (.ptr 5 0)]) (args2 := [.one (.ptr 1000000 0)]) (os := [.cells (Command.cells r1.2.1)]) (os' := [.cells (Command.cells r1.2.1), .cells [.ptr 1000000 1, .ptr 1000000 4, .ptr 1000000 5]]) (os1 := [.cells (Command.cells r1.2.1), .cells [.ptr 1000000 1, .ptr 1000000 4, .ptr 1000000 5]]) (res := .one (.csl 1000001 1 0 3)) (res1 := .one (.csl 1000001 1 0 3)) (r := .one (.csl 300000 1 0 3)) (N := [(5, some (.cells (Command.cells r1.2.1))), (300000, some (.cells [.ptr 5 1, .ptr 5 4, .ptr 5 5]))]) (by kernel_rfl) (readA_ow (readA_keep (by kernel_rfl) (readA_nil))) (by kernel_rfl) (by kernel_rfl) (by kernel_rfl) (by kernel_rfl) ((F56s0_ok n r1.2.1 r2 hr2).trans (congrArg some (F56s0_e_2 r1.2.1 r2 cr2))) (by kernel_rfl) (by kernel_rfl) (by kernel_rfl) rfl (by kernel_rfl) (by kernel_rfl) (by kernel_rfl))) ?_
          refine SimI.bind (og := F66s5 n r1.2.1 a0 r1.2.2) { dst := some 32, op := POp.gcallv false false [1, 5, 6, 7, 300000, 300001, 300002, 300003, 300004, 300005, 300006, 300007] [[(0, 1)]] (Operand.tmp 30) [Operand.tmp 31], guard := none, hints := [] } (fun r7 => [(32, .one (li .i64 r7.1))]) (fun r7 => [(300000, some (.cells [.ptr 5 1, .ptr 5 4, .ptr 5 5])), (5, some (.cells (Command.cells r7.2.1))), (7, some (.cells [.fn 64 [.ptr 1 0, .ptr 6 0]])), (1, some (.cells [ls a0])), (6, some (.cells [li .i64 r7.2.2]))]) (by kernel_rfl) (fun r7 hr => pOp_eff (by kernel_rfl) (by kernel_rfl) (eff_gcallv (ks := [300000, 5, 7, 1, 6]) (rks := []) (new := []) (ARGS := [.one (.csl 300000 1 0 3), .one (.ptr 7 0)]) (args1 := [.one (.csl 300000 1 0 3), .one (.ptr 7 0)]) (args2 := [.one (.csl 1000000 1 0 3), .one (.ptr 1000002 0)]) (os := [.cells [.ptr 1000001 1, .ptr 1000001 4, .ptr 1000001 5], .cells (Command.cells r1.2.1), .cells [.fn 64 [.ptr 1000003 0, .ptr 1000004 0]], .cells [ls a0], .cells [li .i64 r1.2.2]]) (os' := [.cells [.ptr 1000001 1, .ptr 1000001 4, .ptr 1000001 5], .cells (Command.cells r7.2.1), .cells [.fn 64 [.ptr 1000003 0, .ptr 1000004 0]], .cells [ls a0], .cells [li .i64 r7.2.2]]) (os1 := [.cells [.ptr 1000001 1, .ptr 1000001 4, .ptr 1000001 5], .cells (Command.cells r7.2.1), .cells [.fn 64 [.ptr 1000003 0, .ptr 1000004 0]], .cells [ls a0], .cells [li .i64 r7.2.2]]) (res := .one (li .i64 r7.1)) (res1 := .one (li .i64 r7.1)) (r := .one (li .i64 r7.1)) (N := [(300000, some (.cells [.ptr 5 1, .ptr 5 4, .ptr 5 5])), (5, some (.cells (Command.cells r7.2.1))), (7, some (.cells [.fn 64 [.ptr 1 0, .ptr 6 0]])), (1, some (.cells [ls a0])), (6, some (.cells [li .i64 r7.2.2]))]) (caps := [.ptr 7 0]) (by kernel_rfl) (by kernel_rfl) (readA_ow (readA_keep (by kernel_rfl) (readA_keep (by kernel_rfl) (readA_nil)))) (by kernel_rfl) (by kernel_rfl) (by kernel_rfl) (by kernel_rfl) (F66s5_ok n r1.2.1 a0 r1.2.2 r7 hr) (by kernel_rfl) (by kernel_rfl) (by kernel_rfl) rfl (by kernel_rfl) (by kernel_rfl) (by kernel_rfl))) (fun r7 => ?_)
          refine SimI.run 1 [(10, .one (li .i64 r7.1))] [] (by kernel_rfl) ?_
          refine SimI.done (by kernel_rfl) ?_
          refine SimE.thenN ?_
          refine Sim.pre (ts := [1, 2, 5, 6, 7, 10]) (os := [1, 2, 5, 6, 7, 24, 300000]) (ow := []) [(1, .one (.ptr 1 0)), (2, .one (.ptr 2 0)), (5, .one (.ptr 5 0)), (6, .one (.ptr 6 0)), (7, .one (.ptr 7 0)), (10, .one (li .i64 r7.1))] [(1, some (.cells [ls a0])), (2, some (.cells [li .i64 0, li .i64 0, li .i64 0, li .i64 0, li .i64 0, li .i64 0, li .i64 0, ls ByteArray.empty, li .i64 0, ls ByteArray.empty, li .i64 0, ls ByteArray.empty, li .i64 0, ls ByteArray.empty, li .i64 0, ls ByteArray.empty, li .i64 0, li .i64 0, li .i64 0, li .i64 0, li .i64 0, li .i64 0])), (5, some (.cells (Command.cells r7.2.1))), (6, some (.cells [li .i64 r7.2.2])), (7, some (.cells [.fn 64 [.ptr 1 0, .ptr 6 0]]))] (by kernel_rfl) (by kernel_rfl) (by kernel_rfl) ?_
          exact F40_j13_ok n a0 r7.2.1 r7.1 r7.2.2
        · refine SimI.ite (c := r2 = 3) (fun cr2 => ?_) (fun _ => ?_)
          · refine SimI.step { dst := some 31, op := POp.gcall false false [5, 300000, 300001, 300002, 300003, 300004, 300005, 300006, 300007] [[]] 56 [Operand.tmp 5], guard := none, hints := [] } [(31, .one (.csl 300000 1 0 2))] [(5, some (.cells (Command.cells r1.2.1))), (300000, some (.cells [.ptr 5 1, .ptr 5 2]))] (by kernel_rfl) (pOp_eff (by kernel_rfl) (by kernel_rfl) (eff_gcall (ks := [5]) (rks := []) (new := [300000]) (ARGS := [.one (.ptr 5 0)]) (args1 := [.one (.ptr 5 0)]) (args2 := [.one (.ptr 1000000 0)]) (os := [.cells (Command.cells r1.2.1)]) (os' := [.cells (Command.cells r1.2.1), .cells [.ptr 1000000 1, .ptr 1000000 2]]) (os1 := [.cells (Command.cells r1.2.1), .cells [.ptr 1000000 1, .ptr 1000000 2]]) (res := .one (.csl 1000001 1 0 2)) (res1 := .one (.csl 1000001 1 0 2)) (r := .one (.csl 300000 1 0 2)) (N := [(5, some (.cells (Command.cells r1.2.1))), (300000, some (.cells [.ptr 5 1, .ptr 5 2]))]) (by kernel_rfl) (readA_ow (readA_keep (by kernel_rfl) (readA_nil))) (by kernel_rfl) (by kernel_rfl) (by kernel_rfl) (by kernel_rfl) ((F56s0_ok n r1.2.1 r2 hr2).trans (congrArg some (F56s0_e_3 r1.2.1 r2 cr2))) (by kernel_rfl) (by kernel_rfl) (by kernel_rfl) rfl (by kernel_rfl) (by kernel_rfl) (by kernel_rfl))) ?_
            refine SimI.bind (og := F66s4 n r1.2.1 a0 r1.2.2) { dst := some 32, op := POp.gcallv false false [1, 5, 6, 7, 300000, 300001, 300002, 300003, 300004, 300005, 300006, 300007] [[(0, 1)]] (Operand.tmp 30) [Operand.tmp 31], guard := none, hints := [] } (fun r6 => [(32, .one (li .i64 r6.1))]) (fun r6 => [(300000, some (.cells [.ptr 5 1, .ptr 5 2])), (5, some (.cells (Command.cells r6.2.1))), (7, some (.cells [.fn 64 [.ptr 1 0, .ptr 6 0]])), (1, some (.cells [ls a0])), (6, some (.cells [li .i64 r6.2.2]))]) (by kernel_rfl) (fun r6 hr => pOp_eff (by kernel_rfl) (by kernel_rfl) (eff_gcallv (ks := [300000, 5, 7, 1, 6]) (rks := []) (new := []) (ARGS := [.one (.csl 300000 1 0 2), .one (.ptr 7 0)]) (args1 := [.one (.csl 300000 1 0 2), .one (.ptr 7 0)]) (args2 := [.one (.csl 1000000 1 0 2), .one (.ptr 1000002 0)]) (os := [.cells [.ptr 1000001 1, .ptr 1000001 2], .cells (Command.cells r1.2.1), .cells [.fn 64 [.ptr 1000003 0, .ptr 1000004 0]], .cells [ls a0], .cells [li .i64 r1.2.2]]) (os' := [.cells [.ptr 1000001 1, .ptr 1000001 2], .cells (Command.cells r6.2.1), .cells [.fn 64 [.ptr 1000003 0, .ptr 1000004 0]], .cells [ls a0], .cells [li .i64 r6.2.2]]) (os1 := [.cells [.ptr 1000001 1, .ptr 1000001 2], .cells (Command.cells r6.2.1), .cells [.fn 64 [.ptr 1000003 0, .ptr 1000004 0]], .cells [ls a0], .cells [li .i64 r6.2.2]]) (res := .one (li .i64 r6.1)) (res1 := .one (li .i64 r6.1)) (r := .one (li .i64 r6.1)) (N := [(300000, some (.cells [.ptr 5 1, .ptr 5 2])), (5, some (.cells (Command.cells r6.2.1))), (7, some (.cells [.fn 64 [.ptr 1 0, .ptr 6 0]])), (1, some (.cells [ls a0])), (6, some (.cells [li .i64 r6.2.2]))]) (caps := [.ptr 7 0]) (by kernel_rfl) (by kernel_rfl) (readA_ow (readA_keep (by kernel_rfl) (readA_keep (by kernel_rfl) (readA_nil)))) (by kernel_rfl) (by kernel_rfl) (by kernel_rfl) (by kernel_rfl) (F66s4_ok n r1.2.1 a0 r1.2.2 r6 hr) (by kernel_rfl) (by kernel_rfl) (by kernel_rfl) rfl (by kernel_rfl) (by kernel_rfl) (by kernel_rfl))) (fun r6 => ?_)
            refine SimI.run 1 [(10, .one (li .i64 r6.1))] [] (by kernel_rfl) ?_
            refine SimI.done (by kernel_rfl) ?_
            refine SimE.thenN ?_
            refine Sim.pre (ts := [1, 2, 5, 6, 7, 10]) (os := [1, 2, 5, 6, 7, 24, 300000]) (ow := []) [(1, .one (.ptr 1 0)), (2, .one (.ptr 2 0)), (5, .one (.ptr 5 0)), (6, .one (.ptr 6 0)), (7, .one (.ptr 7 0)), (10, .one (li .i64 r6.1))] [(1, some (.cells [ls a0])), (2, some (.cells [li .i64 0, li .i64 0, li .i64 0, li .i64 0, li .i64 0, li .i64 0, li .i64 0, ls ByteArray.empty, li .i64 0, ls ByteArray.empty, li .i64 0, ls ByteArray.empty, li .i64 0, ls ByteArray.empty, li .i64 0, ls ByteArray.empty, li .i64 0, li .i64 0, li .i64 0, li .i64 0, li .i64 0, li .i64 0])), (5, some (.cells (Command.cells r6.2.1))), (6, some (.cells [li .i64 r6.2.2])), (7, some (.cells [.fn 64 [.ptr 1 0, .ptr 6 0]]))] (by kernel_rfl) (by kernel_rfl) (by kernel_rfl) ?_
            exact F40_j13_ok n a0 r6.2.1 r6.1 r6.2.2
          · refine SimI.ite (c := r2 = 4) (fun cr2 => ?_) (fun _ => ?_)
            · refine SimI.step { dst := some 31, op := POp.gcall false false [5, 300000, 300001, 300002, 300003, 300004, 300005, 300006, 300007] [[]] 56 [Operand.tmp 5], guard := none, hints := [] } [(31, .one (.csl 300000 1 0 1))] [(5, some (.cells (Command.cells r1.2.1))), (300000, some (.cells [.ptr 5 1]))] (by kernel_rfl) (pOp_eff (by kernel_rfl) (by kernel_rfl) (eff_gcall (ks := [5]) (rks := []) (new := [300000]) (ARGS := [.one (.ptr 5 0)]) (args1 := [.one (.ptr 5 0)]) (args2 := [.one (.ptr 1000000 0)]) (os := [.cells (Command.cells r1.2.1)]) (os' := [.cells (Command.cells r1.2.1), .cells [.ptr 1000000 1]]) (os1 := [.cells (Command.cells r1.2.1), .cells [.ptr 1000000 1]]) (res := .one (.csl 1000001 1 0 1)) (res1 := .one (.csl 1000001 1 0 1)) (r := .one (.csl 300000 1 0 1)) (N := [(5, some (.cells (Command.cells r1.2.1))), (300000, some (.cells [.ptr 5 1]))]) (by kernel_rfl) (readA_ow (readA_keep (by kernel_rfl) (readA_nil))) (by kernel_rfl) (by kernel_rfl) (by kernel_rfl) (by kernel_rfl) ((F56s0_ok n r1.2.1 r2 hr2).trans (congrArg some (F56s0_e_4 r1.2.1 r2 cr2))) (by kernel_rfl) (by kernel_rfl) (by kernel_rfl) rfl (by kernel_rfl) (by kernel_rfl) (by kernel_rfl))) ?_
              refine SimI.bind (og := F66s3 n r1.2.1 a0 r1.2.2) { dst := some 32, op := POp.gcallv false false [1, 5, 6, 7, 300000, 300001, 300002, 300003, 300004, 300005, 300006, 300007] [[(0, 1)]] (Operand.tmp 30) [Operand.tmp 31], guard := none, hints := [] } (fun r5 => [(32, .one (li .i64 r5.1))]) (fun r5 => [(300000, some (.cells [.ptr 5 1])), (5, some (.cells (Command.cells r5.2.1))), (7, some (.cells [.fn 64 [.ptr 1 0, .ptr 6 0]])), (1, some (.cells [ls a0])), (6, some (.cells [li .i64 r5.2.2]))]) (by kernel_rfl) (fun r5 hr => pOp_eff (by kernel_rfl) (by kernel_rfl) (eff_gcallv (ks := [300000, 5, 7, 1, 6]) (rks := []) (new := []) (ARGS := [.one (.csl 300000 1 0 1), .one (.ptr 7 0)]) (args1 := [.one (.csl 300000 1 0 1), .one (.ptr 7 0)]) (args2 := [.one (.csl 1000000 1 0 1), .one (.ptr 1000002 0)]) (os := [.cells [.ptr 1000001 1], .cells (Command.cells r1.2.1), .cells [.fn 64 [.ptr 1000003 0, .ptr 1000004 0]], .cells [ls a0], .cells [li .i64 r1.2.2]]) (os' := [.cells [.ptr 1000001 1], .cells (Command.cells r5.2.1), .cells [.fn 64 [.ptr 1000003 0, .ptr 1000004 0]], .cells [ls a0], .cells [li .i64 r5.2.2]]) (os1 := [.cells [.ptr 1000001 1], .cells (Command.cells r5.2.1), .cells [.fn 64 [.ptr 1000003 0, .ptr 1000004 0]], .cells [ls a0], .cells [li .i64 r5.2.2]]) (res := .one (li .i64 r5.1)) (res1 := .one (li .i64 r5.1)) (r := .one (li .i64 r5.1)) (N := [(300000, some (.cells [.ptr 5 1])), (5, some (.cells (Command.cells r5.2.1))), (7, some (.cells [.fn 64 [.ptr 1 0, .ptr 6 0]])), (1, some (.cells [ls a0])), (6, some (.cells [li .i64 r5.2.2]))]) (caps := [.ptr 7 0]) (by kernel_rfl) (by kernel_rfl) (readA_ow (readA_keep (by kernel_rfl) (readA_keep (by kernel_rfl) (readA_nil)))) (by kernel_rfl) (by kernel_rfl) (by kernel_rfl) (by kernel_rfl) (F66s3_ok n r1.2.1 a0 r1.2.2 r5 hr) (by kernel_rfl) (by kernel_rfl) (by kernel_rfl) rfl (by kernel_rfl) (by kernel_rfl) (by kernel_rfl))) (fun r5 => ?_)
              refine SimI.run 1 [(10, .one (li .i64 r5.1))] [] (by kernel_rfl) ?_
              refine SimI.done (by kernel_rfl) ?_
              refine SimE.thenN ?_
              refine Sim.pre (ts := [1, 2, 5, 6, 7, 10]) (os := [1, 2, 5, 6, 7, 24, 300000]) (ow := []) [(1, .one (.ptr 1 0)), (2, .one (.ptr 2 0)), (5, .one (.ptr 5 0)), (6, .one (.ptr 6 0)), (7, .one (.ptr 7 0)), (10, .one (li .i64 r5.1))] [(1, some (.cells [ls a0])), (2, some (.cells [li .i64 0, li .i64 0, li .i64 0, li .i64 0, li .i64 0, li .i64 0, li .i64 0, ls ByteArray.empty, li .i64 0, ls ByteArray.empty, li .i64 0, ls ByteArray.empty, li .i64 0, ls ByteArray.empty, li .i64 0, ls ByteArray.empty, li .i64 0, li .i64 0, li .i64 0, li .i64 0, li .i64 0, li .i64 0])), (5, some (.cells (Command.cells r5.2.1))), (6, some (.cells [li .i64 r5.2.2])), (7, some (.cells [.fn 64 [.ptr 1 0, .ptr 6 0]]))] (by kernel_rfl) (by kernel_rfl) (by kernel_rfl) ?_
              exact F40_j13_ok n a0 r5.2.1 r5.1 r5.2.2
            · refine SimI.ite (c := r2 = 5) (fun cr2 => ?_) (fun _ => ?_)
              · refine SimI.step { dst := some 31, op := POp.gcall false false [5, 300000, 300001, 300002, 300003, 300004, 300005, 300006, 300007] [[]] 56 [Operand.tmp 5], guard := none, hints := [] } [(31, .one (.csl 300000 1 0 2))] [(5, some (.cells (Command.cells r1.2.1))), (300000, some (.cells [.ptr 5 2, .ptr 5 3]))] (by kernel_rfl) (pOp_eff (by kernel_rfl) (by kernel_rfl) (eff_gcall (ks := [5]) (rks := []) (new := [300000]) (ARGS := [.one (.ptr 5 0)]) (args1 := [.one (.ptr 5 0)]) (args2 := [.one (.ptr 1000000 0)]) (os := [.cells (Command.cells r1.2.1)]) (os' := [.cells (Command.cells r1.2.1), .cells [.ptr 1000000 2, .ptr 1000000 3]]) (os1 := [.cells (Command.cells r1.2.1), .cells [.ptr 1000000 2, .ptr 1000000 3]]) (res := .one (.csl 1000001 1 0 2)) (res1 := .one (.csl 1000001 1 0 2)) (r := .one (.csl 300000 1 0 2)) (N := [(5, some (.cells (Command.cells r1.2.1))), (300000, some (.cells [.ptr 5 2, .ptr 5 3]))]) (by kernel_rfl) (readA_ow (readA_keep (by kernel_rfl) (readA_nil))) (by kernel_rfl) (by kernel_rfl) (by kernel_rfl) (by kernel_rfl) ((F56s0_ok n r1.2.1 r2 hr2).trans (congrArg some (F56s0_e_5 r1.2.1 r2 cr2))) (by kernel_rfl) (by kernel_rfl) (by kernel_rfl) rfl (by kernel_rfl) (by kernel_rfl) (by kernel_rfl))) ?_
                refine SimI.bind (og := F66s2 n r1.2.1 a0 r1.2.2) { dst := some 32, op := POp.gcallv false false [1, 5, 6, 7, 300000, 300001, 300002, 300003, 300004, 300005, 300006, 300007] [[(0, 1)]] (Operand.tmp 30) [Operand.tmp 31], guard := none, hints := [] } (fun r4 => [(32, .one (li .i64 r4.1))]) (fun r4 => [(300000, some (.cells [.ptr 5 2, .ptr 5 3])), (5, some (.cells (Command.cells r4.2.1))), (7, some (.cells [.fn 64 [.ptr 1 0, .ptr 6 0]])), (1, some (.cells [ls a0])), (6, some (.cells [li .i64 r4.2.2]))]) (by kernel_rfl) (fun r4 hr => pOp_eff (by kernel_rfl) (by kernel_rfl) (eff_gcallv (ks := [300000, 5, 7, 1, 6]) (rks := []) (new := []) (ARGS := [.one (.csl 300000 1 0 2), .one (.ptr 7 0)]) (args1 := [.one (.csl 300000 1 0 2), .one (.ptr 7 0)]) (args2 := [.one (.csl 1000000 1 0 2), .one (.ptr 1000002 0)]) (os := [.cells [.ptr 1000001 2, .ptr 1000001 3], .cells (Command.cells r1.2.1), .cells [.fn 64 [.ptr 1000003 0, .ptr 1000004 0]], .cells [ls a0], .cells [li .i64 r1.2.2]]) (os' := [.cells [.ptr 1000001 2, .ptr 1000001 3], .cells (Command.cells r4.2.1), .cells [.fn 64 [.ptr 1000003 0, .ptr 1000004 0]], .cells [ls a0], .cells [li .i64 r4.2.2]]) (os1 := [.cells [.ptr 1000001 2, .ptr 1000001 3], .cells (Command.cells r4.2.1), .cells [.fn 64 [.ptr 1000003 0, .ptr 1000004 0]], .cells [ls a0], .cells [li .i64 r4.2.2]]) (res := .one (li .i64 r4.1)) (res1 := .one (li .i64 r4.1)) (r := .one (li .i64 r4.1)) (N := [(300000, some (.cells [.ptr 5 2, .ptr 5 3])), (5, some (.cells (Command.cells r4.2.1))), (7, some (.cells [.fn 64 [.ptr 1 0, .ptr 6 0]])), (1, some (.cells [ls a0])), (6, some (.cells [li .i64 r4.2.2]))]) (caps := [.ptr 7 0]) (by kernel_rfl) (by kernel_rfl) (readA_ow (readA_keep (by kernel_rfl) (readA_keep (by kernel_rfl) (readA_nil)))) (by kernel_rfl) (by kernel_rfl) (by kernel_rfl) (by kernel_rfl) (F66s2_ok n r1.2.1 a0 r1.2.2 r4 hr) (by kernel_rfl) (by kernel_rfl) (by kernel_rfl) rfl (by kernel_rfl) (by kernel_rfl) (by kernel_rfl))) (fun r4 => ?_)
                refine SimI.run 1 [(10, .one (li .i64 r4.1))] [] (by kernel_rfl) ?_
                refine SimI.done (by kernel_rfl) ?_
                refine SimE.thenN ?_
                refine Sim.pre (ts := [1, 2, 5, 6, 7, 10]) (os := [1, 2, 5, 6, 7, 24, 300000]) (ow := []) [(1, .one (.ptr 1 0)), (2, .one (.ptr 2 0)), (5, .one (.ptr 5 0)), (6, .one (.ptr 6 0)), (7, .one (.ptr 7 0)), (10, .one (li .i64 r4.1))] [(1, some (.cells [ls a0])), (2, some (.cells [li .i64 0, li .i64 0, li .i64 0, li .i64 0, li .i64 0, li .i64 0, li .i64 0, ls ByteArray.empty, li .i64 0, ls ByteArray.empty, li .i64 0, ls ByteArray.empty, li .i64 0, ls ByteArray.empty, li .i64 0, ls ByteArray.empty, li .i64 0, li .i64 0, li .i64 0, li .i64 0, li .i64 0, li .i64 0])), (5, some (.cells (Command.cells r4.2.1))), (6, some (.cells [li .i64 r4.2.2])), (7, some (.cells [.fn 64 [.ptr 1 0, .ptr 6 0]]))] (by kernel_rfl) (by kernel_rfl) (by kernel_rfl) ?_
                exact F40_j13_ok n a0 r4.2.1 r4.1 r4.2.2
              · refine SimI.ite (c := r2 = 6) (fun cr2 => ?_) (fun _ => ?_)
                · refine SimI.step { dst := some 31, op := POp.gcall false false [5, 300000, 300001, 300002, 300003, 300004, 300005, 300006, 300007] [[]] 56 [Operand.tmp 5], guard := none, hints := [] } [(31, .one (.csl 300000 1 0 4))] [(5, some (.cells (Command.cells r1.2.1))), (300000, some (.cells [.ptr 5 18, .ptr 5 19, .ptr 5 20, .ptr 5 21]))] (by kernel_rfl) (pOp_eff (by kernel_rfl) (by kernel_rfl) (eff_gcall (ks := [5]) (rks := []) (new := [300000]) (ARGS := [.one (.ptr 5 0)]) (args1 := [.one (.ptr 5 0)]) (args2 := [.one (.ptr 1000000 0)]) (os := [.cells (Command.cells r1.2.1)]) (os' := [.cells (Command.cells r1.2.1), .cells [.ptr 1000000 18, .ptr 1000000 19, .ptr 1000000 20, .ptr 1000000 21]]) (os1 := [.cells (Command.cells r1.2.1), .cells [.ptr 1000000 18, .ptr 1000000 19, .ptr 1000000 20, .ptr 1000000 21]]) (res := .one (.csl 1000001 1 0 4)) (res1 := .one (.csl 1000001 1 0 4)) (r := .one (.csl 300000 1 0 4)) (N := [(5, some (.cells (Command.cells r1.2.1))), (300000, some (.cells [.ptr 5 18, .ptr 5 19, .ptr 5 20, .ptr 5 21]))]) (by kernel_rfl) (readA_ow (readA_keep (by kernel_rfl) (readA_nil))) (by kernel_rfl) (by kernel_rfl) (by kernel_rfl) (by kernel_rfl) ((F56s0_ok n r1.2.1 r2 hr2).trans (congrArg some (F56s0_e_6 r1.2.1 r2 cr2))) (by kernel_rfl) (by kernel_rfl) (by kernel_rfl) rfl (by kernel_rfl) (by kernel_rfl) (by kernel_rfl))) ?_
                  refine SimI.bind (og := F66s1 n r1.2.1 a0 r1.2.2) { dst := some 32, op := POp.gcallv false false [1, 5, 6, 7, 300000, 300001, 300002, 300003, 300004, 300005, 300006, 300007] [[(0, 1)]] (Operand.tmp 30) [Operand.tmp 31], guard := none, hints := [] } (fun r3 => [(32, .one (li .i64 r3.1))]) (fun r3 => [(300000, some (.cells [.ptr 5 18, .ptr 5 19, .ptr 5 20, .ptr 5 21])), (5, some (.cells (Command.cells r3.2.1))), (7, some (.cells [.fn 64 [.ptr 1 0, .ptr 6 0]])), (1, some (.cells [ls a0])), (6, some (.cells [li .i64 r3.2.2]))]) (by kernel_rfl) (fun r3 hr => pOp_eff (by kernel_rfl) (by kernel_rfl) (eff_gcallv (ks := [300000, 5, 7, 1, 6]) (rks := []) (new := []) (ARGS := [.one (.csl 300000 1 0 4), .one (.ptr 7 0)]) (args1 := [.one (.csl 300000 1 0 4), .one (.ptr 7 0)]) (args2 := [.one (.csl 1000000 1 0 4), .one (.ptr 1000002 0)]) (os := [.cells [.ptr 1000001 18, .ptr 1000001 19, .ptr 1000001 20, .ptr 1000001 21], .cells (Command.cells r1.2.1), .cells [.fn 64 [.ptr 1000003 0, .ptr 1000004 0]], .cells [ls a0], .cells [li .i64 r1.2.2]]) (os' := [.cells [.ptr 1000001 18, .ptr 1000001 19, .ptr 1000001 20, .ptr 1000001 21], .cells (Command.cells r3.2.1), .cells [.fn 64 [.ptr 1000003 0, .ptr 1000004 0]], .cells [ls a0], .cells [li .i64 r3.2.2]]) (os1 := [.cells [.ptr 1000001 18, .ptr 1000001 19, .ptr 1000001 20, .ptr 1000001 21], .cells (Command.cells r3.2.1), .cells [.fn 64 [.ptr 1000003 0, .ptr 1000004 0]], .cells [ls a0], .cells [li .i64 r3.2.2]]) (res := .one (li .i64 r3.1)) (res1 := .one (li .i64 r3.1)) (r := .one (li .i64 r3.1)) (N := [(300000, some (.cells [.ptr 5 18, .ptr 5 19, .ptr 5 20, .ptr 5 21])), (5, some (.cells (Command.cells r3.2.1))), (7, some (.cells [.fn 64 [.ptr 1 0, .ptr 6 0]])), (1, some (.cells [ls a0])), (6, some (.cells [li .i64 r3.2.2]))]) (caps := [.ptr 7 0]) (by kernel_rfl) (by kernel_rfl) (readA_ow (readA_keep (by kernel_rfl) (readA_keep (by kernel_rfl) (readA_nil)))) (by kernel_rfl) (by kernel_rfl) (by kernel_rfl) (by kernel_rfl) (F66s1_ok n r1.2.1 a0 r1.2.2 r3 hr) (by kernel_rfl) (by kernel_rfl) (by kernel_rfl) rfl (by kernel_rfl) (by kernel_rfl) (by kernel_rfl))) (fun r3 => ?_)
                  refine SimI.run 1 [(10, .one (li .i64 r3.1))] [] (by kernel_rfl) ?_
                  refine SimI.done (by kernel_rfl) ?_
                  refine SimE.thenN ?_
                  refine Sim.pre (ts := [1, 2, 5, 6, 7, 10]) (os := [1, 2, 5, 6, 7, 24, 300000]) (ow := []) [(1, .one (.ptr 1 0)), (2, .one (.ptr 2 0)), (5, .one (.ptr 5 0)), (6, .one (.ptr 6 0)), (7, .one (.ptr 7 0)), (10, .one (li .i64 r3.1))] [(1, some (.cells [ls a0])), (2, some (.cells [li .i64 0, li .i64 0, li .i64 0, li .i64 0, li .i64 0, li .i64 0, li .i64 0, ls ByteArray.empty, li .i64 0, ls ByteArray.empty, li .i64 0, ls ByteArray.empty, li .i64 0, ls ByteArray.empty, li .i64 0, ls ByteArray.empty, li .i64 0, li .i64 0, li .i64 0, li .i64 0, li .i64 0, li .i64 0])), (5, some (.cells (Command.cells r3.2.1))), (6, some (.cells [li .i64 r3.2.2])), (7, some (.cells [.fn 64 [.ptr 1 0, .ptr 6 0]]))] (by kernel_rfl) (by kernel_rfl) (by kernel_rfl) ?_
                  exact F40_j13_ok n a0 r3.2.1 r3.1 r3.2.2
                · exact SimI.vac rfl


-- 32: vedette/vedettelaw10.known
theorem F32_ok (n : Nat) : ∀ r, (some true : Option Bool) = some r → D 32 [] [] = some (.one (lb r), []) := by
  rintro _ ⟨⟩
  exact all_of (N := 60) (by kernel_rfl)


end Go.Proofs.Ythmbegagkgdopaa
