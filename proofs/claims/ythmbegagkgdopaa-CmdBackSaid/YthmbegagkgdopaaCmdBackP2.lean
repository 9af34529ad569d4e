/-
  Functions of the program as functions of Lean. No condition.
-/
import Derived.Test.YthmbegagkgdopaaCmdBackP1
namespace Go.Proofs.Ythmbegagkgdopaa
open Go Go.Rx
set_option maxRecDepth 100000
set_option linter.unusedVariables false
set_option linter.unusedSimpArgs false
set_option linter.unnecessarySimpa false
-- 33: vedette/vedettelaw10.fewCmd
def F33_e : Bool → PV × List Ob := fun r => (.one (lb r), [])
def F33 (n : Nat) (a0 : Command) : Option Bool :=
  if decide ((40 : Int) < (a0.F.a0.Text.size : Int)) then
    some false
  else
    if decide ((40 : Int) < (a0.F.a1.Text.size : Int)) then
      some false
    else
      if decide ((40 : Int) < (a0.F.a2.Text.size : Int)) then
        some false
      else
        if decide ((40 : Int) < (a0.F.a3.Text.size : Int)) then
          some false
        else
          some (decide ((a0.Value.Text.size : Int) ≤ 40))
theorem F33_ok (n : Nat) (a0 : Command) : ∀ r, F33 n a0 = some r → D 33 [.agg (Command.cells a0)] [] = some (F33_e r) := by
  refine fn_to (D := D) (n := n + 8) (nt := 20) (rs := pc33_r) (c := pc33_c26) (L := [(0, .agg (Command.cells a0))]) (M := []) (k := 0) rfl rfl rfl rfl rfl rfl rfl ?_
  unfold F33
  refine Sim.seq ?_
  refine Sim.region0 ?_
  refine SimI.run 2 [(2, .one (lb false)), (1, .one (.ptr 1 0))] [(1, some (.cells (Command.cells a0)))] (by kernel_rfl) ?_
  refine SimI.done (by kernel_rfl) ?_
  refine SimE.thenN ?_
  refine Sim.seq ?_
  refine Sim.seq ?_
  refine Sim.region0 ?_
  refine SimI.run 1 [(3, .one (li .i64 0))] [] (by kernel_rfl) ?_
  refine SimI.done (by kernel_rfl) ?_
  refine SimE.thenN ?_
  refine Sim.block ?_
  refine Sim.loop ?_
  refine SimL.succ ?_
  refine Sim.seq ?_
  refine Sim.seq ?_
  refine Sim.region [(1, .one (.ptr 1 0)), (3, .one (li .i64 0))] [(1, some (.cells (Command.cells a0)))] (by kernel_rfl) ?_
  refine SimI.run 2 [(5, .one (lb true)), (4, .one (li .i64 0))] [] (by kernel_rfl) ?_
  refine SimI.done (by kernel_rfl) ?_
  refine SimE.thenN ?_
  refine Sim.condT (by kernel_rfl) ?_
  refine Sim.skip ?_
  refine SimE.thenN ?_
  refine Sim.seq ?_
  refine Sim.block ?_
  refine Sim.seq ?_
  refine Sim.region0 ?_
  refine SimI.run 7 [(14, .one (lb (decide ((40 : Int) < (a0.F.a0.Text.size : Int))))), (13, .one (li .i64 (a0.F.a0.Text.size : Int))), (12, .one (ls a0.F.a0.Text)), (11, .one (.ptr 1 7)), (10, .one (.ptr 1 6)), (9, .one (.ptr 1 6)), (8, .one (li .i64 0))] [] (by kernel_rfl) ?_
  refine SimI.done (by kernel_rfl) ?_
  refine SimE.thenN ?_
  refine Sim.cond (decide ((40 : Int) < (a0.F.a0.Text.size : Int))) (by kernel_rfl) ?_ ?_
  · refine Sim.seq ?_
    refine Sim.region0 ?_
    refine SimI.run 1 [(2, .one (lb false))] [] (by kernel_rfl) ?_
    refine SimI.done (by kernel_rfl) ?_
    refine SimE.thenN ?_
    refine Sim.ret ?_
    refine SimE.blockR ?_
    refine SimE.thenR ?_
    refine SimE.loopR ?_
    refine SimE.blockR ?_
    refine SimE.thenR ?_
    exact SimE.fin (by kernel_rfl)
  · refine Sim.skip ?_
    refine SimE.blockN ?_
    refine SimE.thenN ?_
    refine Sim.region0 ?_
    refine SimI.run 3 [(3, .one (li .i64 1)), (7, .one (li .i64 1)), (6, .one (li .i64 0))] [] (by kernel_rfl) ?_
    refine SimI.done (by kernel_rfl) ?_
    refine SimE.loopN ?_
    refine SimL.succ ?_
    refine Sim.seq ?_
    refine Sim.seq ?_
    refine Sim.region [(1, .one (.ptr 1 0)), (3, .one (li .i64 1))] [(1, some (.cells (Command.cells a0)))] (by kernel_rfl) ?_
    refine SimI.run 2 [(5, .one (lb true)), (4, .one (li .i64 1))] [] (by kernel_rfl) ?_
    refine SimI.done (by kernel_rfl) ?_
    refine SimE.thenN ?_
    refine Sim.condT (by kernel_rfl) ?_
    refine Sim.skip ?_
    refine SimE.thenN ?_
    refine Sim.seq ?_
    refine Sim.block ?_
    refine Sim.seq ?_
    refine Sim.region0 ?_
    refine SimI.run 7 [(14, .one (lb (decide ((40 : Int) < (a0.F.a1.Text.size : Int))))), (13, .one (li .i64 (a0.F.a1.Text.size : Int))), (12, .one (ls a0.F.a1.Text)), (11, .one (.ptr 1 9)), (10, .one (.ptr 1 8)), (9, .one (.ptr 1 6)), (8, .one (li .i64 1))] [] (by kernel_rfl) ?_
    refine SimI.done (by kernel_rfl) ?_
    refine SimE.thenN ?_
    refine Sim.cond (decide ((40 : Int) < (a0.F.a1.Text.size : Int))) (by kernel_rfl) ?_ ?_
    · refine Sim.seq ?_
      refine Sim.region0 ?_
      refine SimI.run 1 [(2, .one (lb false))] [] (by kernel_rfl) ?_
      refine SimI.done (by kernel_rfl) ?_
      refine SimE.thenN ?_
      refine Sim.ret ?_
      refine SimE.blockR ?_
      refine SimE.thenR ?_
      refine SimE.loopR ?_
      refine SimE.blockR ?_
      refine SimE.thenR ?_
      exact SimE.fin (by kernel_rfl)
    · refine Sim.skip ?_
      refine SimE.blockN ?_
      refine SimE.thenN ?_
      refine Sim.region0 ?_
      refine SimI.run 3 [(3, .one (li .i64 2)), (7, .one (li .i64 2)), (6, .one (li .i64 1))] [] (by kernel_rfl) ?_
      refine SimI.done (by kernel_rfl) ?_
      refine SimE.loopN ?_
      refine SimL.succ ?_
      refine Sim.seq ?_
      refine Sim.seq ?_
      refine Sim.region [(1, .one (.ptr 1 0)), (3, .one (li .i64 2))] [(1, some (.cells (Command.cells a0)))] (by kernel_rfl) ?_
      refine SimI.run 2 [(5, .one (lb true)), (4, .one (li .i64 2))] [] (by kernel_rfl) ?_
      refine SimI.done (by kernel_rfl) ?_
      refine SimE.thenN ?_
      refine Sim.condT (by kernel_rfl) ?_
      refine Sim.skip ?_
      refine SimE.thenN ?_
      refine Sim.seq ?_
      refine Sim.block ?_
      refine Sim.seq ?_
      refine Sim.region0 ?_
      refine SimI.run 7 [(14, .one (lb (decide ((40 : Int) < (a0.F.a2.Text.size : Int))))), (13, .one (li .i64 (a0.F.a2.Text.size : Int))), (12, .one (ls a0.F.a2.Text)), (11, .one (.ptr 1 11)), (10, .one (.ptr 1 10)), (9, .one (.ptr 1 6)), (8, .one (li .i64 2))] [] (by kernel_rfl) ?_
      refine SimI.done (by kernel_rfl) ?_
      refine SimE.thenN ?_
      refine Sim.cond (decide ((40 : Int) < (a0.F.a2.Text.size : Int))) (by kernel_rfl) ?_ ?_
      · refine Sim.seq ?_
        refine Sim.region0 ?_
        refine SimI.run 1 [(2, .one (lb false))] [] (by kernel_rfl) ?_
        refine SimI.done (by kernel_rfl) ?_
        refine SimE.thenN ?_
        refine Sim.ret ?_
        refine SimE.blockR ?_
        refine SimE.thenR ?_
        refine SimE.loopR ?_
        refine SimE.blockR ?_
        refine SimE.thenR ?_
        exact SimE.fin (by kernel_rfl)
      · refine Sim.skip ?_
        refine SimE.blockN ?_
        refine SimE.thenN ?_
        refine Sim.region0 ?_
        refine SimI.run 3 [(3, .one (li .i64 3)), (7, .one (li .i64 3)), (6, .one (li .i64 2))] [] (by kernel_rfl) ?_
        refine SimI.done (by kernel_rfl) ?_
        refine SimE.loopN ?_
        refine SimL.succ ?_
        refine Sim.seq ?_
        refine Sim.seq ?_
        refine Sim.region [(1, .one (.ptr 1 0)), (3, .one (li .i64 3))] [(1, some (.cells (Command.cells a0)))] (by kernel_rfl) ?_
        refine SimI.run 2 [(5, .one (lb true)), (4, .one (li .i64 3))] [] (by kernel_rfl) ?_
        refine SimI.done (by kernel_rfl) ?_
        refine SimE.thenN ?_
        refine Sim.condT (by kernel_rfl) ?_
        refine Sim.skip ?_
        refine SimE.thenN ?_
        refine Sim.seq ?_
        refine Sim.block ?_
        refine Sim.seq ?_
        refine Sim.region0 ?_
        refine SimI.run 7 [(14, .one (lb (decide ((40 : Int) < (a0.F.a3.Text.size : Int))))), (13, .one (li .i64 (a0.F.a3.Text.size : Int))), (12, .one (ls a0.F.a3.Text)), (11, .one (.ptr 1 13)), (10, .one (.ptr 1 12)), (9, .one (.ptr 1 6)), (8, .one (li .i64 3))] [] (by kernel_rfl) ?_
        refine SimI.done (by kernel_rfl) ?_
        refine SimE.thenN ?_
        refine Sim.cond (decide ((40 : Int) < (a0.F.a3.Text.size : Int))) (by kernel_rfl) ?_ ?_
        · refine Sim.seq ?_
          refine Sim.region0 ?_
          refine SimI.run 1 [(2, .one (lb false))] [] (by kernel_rfl) ?_
          refine SimI.done (by kernel_rfl) ?_
          refine SimE.thenN ?_
          refine Sim.ret ?_
          refine SimE.blockR ?_
          refine SimE.thenR ?_
          refine SimE.loopR ?_
          refine SimE.blockR ?_
          refine SimE.thenR ?_
          exact SimE.fin (by kernel_rfl)
        · refine Sim.skip ?_
          refine SimE.blockN ?_
          refine SimE.thenN ?_
          refine Sim.region0 ?_
          refine SimI.run 3 [(3, .one (li .i64 4)), (7, .one (li .i64 4)), (6, .one (li .i64 3))] [] (by kernel_rfl) ?_
          refine SimI.done (by kernel_rfl) ?_
          refine SimE.loopN ?_
          refine SimL.succ ?_
          refine Sim.seq ?_
          refine Sim.seq ?_
          refine Sim.region [(1, .one (.ptr 1 0)), (3, .one (li .i64 4))] [(1, some (.cells (Command.cells a0)))] (by kernel_rfl) ?_
          refine SimI.run 2 [(5, .one (lb false)), (4, .one (li .i64 4))] [] (by kernel_rfl) ?_
          refine SimI.done (by kernel_rfl) ?_
          refine SimE.thenN ?_
          refine Sim.condF (by kernel_rfl) ?_
          refine Sim.exit ?_
          refine SimE.thenX ?_
          refine SimE.loopX ?_
          refine SimE.blockX ?_
          refine SimE.thenN ?_
          refine Sim.seq ?_
          refine Sim.region0 ?_
          refine SimI.run 6 [(2, .one (lb (decide ((a0.Value.Text.size : Int) ≤ 40)))), (19, .one (lb (decide ((a0.Value.Text.size : Int) ≤ 40)))), (18, .one (li .i64 (a0.Value.Text.size : Int))), (17, .one (ls a0.Value.Text)), (16, .one (.ptr 1 15)), (15, .one (.ptr 1 14))] [] (by kernel_rfl) ?_
          refine SimI.done (by kernel_rfl) ?_
          refine SimE.thenN ?_
          refine Sim.ret ?_
          exact SimE.fin (by kernel_rfl)


-- 10: vedette/vedettelaw10.CmdBack
def F10_e : Bool → PV × List Ob := fun r => (.one (lb r), [])
def F10 (n : Nat) (a0 : Command) (a1 : Command) (a2 : ByteArray) (a3 : Int) : Option Bool :=
  ((some true)).bind fun (r1 : Bool) =>
  if !(r1) then
    some false
  else
    (F33 n a0).bind fun (r2 : Bool) =>
    if !(r2) then
      some true
    else
      (F33 n a1).bind fun (r3 : Bool) =>
      if !(r3) then
        some true
      else
        if decide ((60 : Int) < (a2.size : Int)) then
          some true
        else
          (F35 n a0).bind fun (r4 : Bool) =>
          if !(r4) then
            some true
          else
            (F35 n a1).bind fun (r5 : Bool) =>
            if !(r5) then
              some true
            else
              (F34 n a0).bind fun (r6 : (ByteArray × Int)) =>
              (F34 n a1).bind fun (r7 : (ByteArray × Int)) =>
              if r6.1.size + a2.size ≤ 9223372036854775807 then
                (F40 n (r6.1 ++ a2)).bind fun (r8 : (Command × Int × Int)) =>
                if r6.2 != 0 then
                  some false
                else
                  if r7.2 != 0 then
                    some false
                  else
                    if r8.2.2 != 0 then
                      some false
                    else
                      if !(Command.eqb r8.1 a0) then
                        some false
                      else
                        if r8.2.1 != (r6.1.size : Int) then
                          some false
                        else
                          if (r6.1.size : Int) == 0 then
                            some false
                          else
                            if (r6.1.size : Int) ≠ 0 then
                              if 0 ≤ (Int.tmod (IntKind.wrap .i64 a3) (r6.1.size : Int) : Int) ∧ (Int.tmod (IntKind.wrap .i64 a3) (r6.1.size : Int) : Int) ≤ (r6.1.size : Int) then
                                (F40 n (r6.1.extract 0 (Int.tmod (IntKind.wrap .i64 a3) (r6.1.size : Int)).toNat)).bind fun (r9 : (Command × Int × Int)) =>
                                if r9.2.2 != 0 then
                                  if r9.2.1 == 0 then
                                    some ((r6.1.toList == r7.1.toList) == (Command.eqb a0 a1))
                                  else
                                    some false
                                else
                                  some false
                              else none
                            else none
              else none
theorem F10_ok (n : Nat) (a0 : Command) (a1 : Command) (a2 : ByteArray) (a3 : Int) : ∀ r, F10 n a0 a1 a2 a3 = some r → D 10 [.agg (Command.cells a0), .agg (Command.cells a1), .one (ls a2), .one (li .u8 a3)] [] = some (F10_e r) := by
  refine fn_to (D := D) (n := n + 8) (nt := 115) (rs := pc10_r) (c := pc10_c37) (L := [(0, .agg (Command.cells a0)), (1, .agg (Command.cells a1)), (2, .one (ls a2)), (3, .one (li .u8 a3))]) (M := []) (k := 0) rfl rfl rfl rfl rfl rfl rfl ?_
  unfold F10
  refine Sim.seq ?_
  refine Sim.region0 ?_
  refine SimI.run 3 [(8, .one (lb false)), (5, .one (.ptr 5 0)), (4, .one (.ptr 4 0))] [(5, some (.cells (Command.cells a1))), (4, some (.cells (Command.cells a0)))] (by kernel_rfl) ?_
  refine SimI.done (by kernel_rfl) ?_
  refine SimE.thenN ?_
  refine Sim.seq ?_
  refine Sim.seq ?_
  refine Sim.region0 ?_
  refine SimI.bind (og := (some true)) { dst := some 19, op := POp.call true [] 32 [], guard := none, hints := [] } (fun r1 => [(19, .one (lb r1))]) (fun r1 => []) (by kernel_rfl) (fun r1 hr => pOp_eff (by kernel_rfl) (by kernel_rfl) (eff_call (ARGS := []) (by kernel_rfl) (args_nil) (F32_ok n r1 hr) (by kernel_rfl))) (fun r1 => ?_)
  refine SimI.run 1 [(20, .one (lb (!(r1))))] [] (by kernel_rfl) ?_
  refine SimI.done (by kernel_rfl) ?_
  refine SimE.thenN ?_
  refine Sim.cond (!(r1)) (by kernel_rfl) ?_ ?_
  · refine Sim.seq ?_
    refine Sim.region0 ?_
    refine SimI.run 1 [(8, .one (lb false))] [] (by kernel_rfl) ?_
    refine SimI.done (by kernel_rfl) ?_
    refine SimE.thenN ?_
    refine Sim.ret ?_
    refine SimE.thenR ?_
    exact SimE.fin (by kernel_rfl)
  · refine Sim.skip ?_
    refine SimE.thenN ?_
    refine Sim.seq ?_
    refine Sim.seq ?_
    refine Sim.region0 ?_
    refine SimI.run 1 [(21, .agg (Command.cells a0))] [] (by kernel_rfl) ?_
    refine SimI.bind (og := F33 n a0) { dst := some 22, op := POp.call true [[]] 33 [Operand.tmp 21], guard := none, hints := [] } (fun r2 => [(22, .one (lb r2))]) (fun r2 => []) (by kernel_rfl) (fun r2 hr => pOp_eff (by kernel_rfl) (by kernel_rfl) (eff_call (ARGS := [.agg (Command.cells a0)]) (by kernel_rfl) (args_clean (by kernel_rfl) args_nil) (F33_ok n a0 r2 hr) (by kernel_rfl))) (fun r2 => ?_)
    refine SimI.run 2 [(24, .one (lb (!(r2)))), (23, .one (lb (!(r2))))] [] (by kernel_rfl) ?_
    refine SimI.split 24 (!(r2)) (by kernel_rfl) ?_ ?_
    · refine SimI.run 19 [(43, .one (lb true)), (42, .tup []), (41, .tup []), (40, .tup []), (39, .one (lb true)), (38, .one (lb true)), (37, .tup []), (36, .tup []), (35, .tup []), (34, .one (lb true)), (33, .one (lb true)), (32, .tup []), (31, .tup []), (30, .tup []), (29, .one (lb true)), (28, .one (lb true)), (27, .tup []), (26, .tup []), (25, .tup [])] [] (by kernel_rfl) ?_
      refine SimI.done (by kernel_rfl) ?_
      refine SimE.thenN ?_
      refine Sim.condT (by kernel_rfl) ?_
      refine Sim.seq ?_
      refine Sim.region0 ?_
      refine SimI.run 1 [(8, .one (lb true))] [] (by kernel_rfl) ?_
      refine SimI.done (by kernel_rfl) ?_
      refine SimE.thenN ?_
      refine Sim.ret ?_
      refine SimE.thenR ?_
      exact SimE.fin (by kernel_rfl)
    · refine SimI.run 1 [(25, .agg (Command.cells a1))] [] (by kernel_rfl) ?_
      refine SimI.bind (og := F33 n a1) { dst := some 26, op := POp.call true [[]] 33 [Operand.tmp 25], guard := some (24, false), hints := [] } (fun r3 => [(26, .one (lb r3))]) (fun r3 => []) (by kernel_rfl) (fun r3 hr => pOp_eff (by kernel_rfl) (by kernel_rfl) (eff_call (ARGS := [.agg (Command.cells a1)]) (by kernel_rfl) (args_clean (by kernel_rfl) args_nil) (F33_ok n a1 r3 hr) (by kernel_rfl))) (fun r3 => ?_)
      refine SimI.run 3 [(29, .one (lb (!(r3)))), (28, .one (lb (!(r3)))), (27, .one (lb (!(r3))))] [] (by kernel_rfl) ?_
      refine SimI.split 29 (!(r3)) (by kernel_rfl) ?_ ?_
      · refine SimI.run 14 [(43, .one (lb true)), (42, .tup []), (41, .tup []), (40, .tup []), (39, .one (lb true)), (38, .one (lb true)), (37, .tup []), (36, .tup []), (35, .tup []), (34, .one (lb true)), (33, .one (lb true)), (32, .tup []), (31, .tup []), (30, .tup [])] [] (by kernel_rfl) ?_
        refine SimI.done (by kernel_rfl) ?_
        refine SimE.thenN ?_
        refine Sim.condT (by kernel_rfl) ?_
        refine Sim.seq ?_
        refine Sim.region0 ?_
        refine SimI.run 1 [(8, .one (lb true))] [] (by kernel_rfl) ?_
        refine SimI.done (by kernel_rfl) ?_
        refine SimE.thenN ?_
        refine Sim.ret ?_
        refine SimE.thenR ?_
        exact SimE.fin (by kernel_rfl)
      · refine SimI.run 5 [(34, .one (lb (decide ((60 : Int) < (a2.size : Int))))), (33, .one (lb (decide ((60 : Int) < (a2.size : Int))))), (32, .one (lb (decide ((60 : Int) < (a2.size : Int))))), (31, .one (li .i64 (a2.size : Int))), (30, .one (ls a2))] [] (by kernel_rfl) ?_
        refine SimI.split 34 (decide ((60 : Int) < (a2.size : Int))) (by kernel_rfl) ?_ ?_
        · refine SimI.run 9 [(43, .one (lb true)), (42, .tup []), (41, .tup []), (40, .tup []), (39, .one (lb true)), (38, .one (lb true)), (37, .tup []), (36, .tup []), (35, .tup [])] [] (by kernel_rfl) ?_
          refine SimI.done (by kernel_rfl) ?_
          refine SimE.thenN ?_
          refine Sim.condT (by kernel_rfl) ?_
          refine Sim.seq ?_
          refine Sim.region0 ?_
          refine SimI.run 1 [(8, .one (lb true))] [] (by kernel_rfl) ?_
          refine SimI.done (by kernel_rfl) ?_
          refine SimE.thenN ?_
          refine Sim.ret ?_
          refine SimE.thenR ?_
          exact SimE.fin (by kernel_rfl)
        · refine SimI.run 1 [(35, .agg (Command.cells a0))] [] (by kernel_rfl) ?_
          refine SimI.bind (og := F35 n a0) { dst := some 36, op := POp.call true [[]] 35 [Operand.tmp 35], guard := some (34, false), hints := [] } (fun r4 => [(36, .one (lb r4))]) (fun r4 => []) (by kernel_rfl) (fun r4 hr => pOp_eff (by kernel_rfl) (by kernel_rfl) (eff_call (ARGS := [.agg (Command.cells a0)]) (by kernel_rfl) (args_clean (by kernel_rfl) args_nil) (F35_ok n a0 r4 hr) (by kernel_rfl))) (fun r4 => ?_)
          refine SimI.run 3 [(39, .one (lb (!(r4)))), (38, .one (lb (!(r4)))), (37, .one (lb (!(r4))))] [] (by kernel_rfl) ?_
          refine SimI.split 39 (!(r4)) (by kernel_rfl) ?_ ?_
          · refine SimI.run 4 [(43, .one (lb true)), (42, .tup []), (41, .tup []), (40, .tup [])] [] (by kernel_rfl) ?_
            refine SimI.done (by kernel_rfl) ?_
            refine SimE.thenN ?_
            refine Sim.condT (by kernel_rfl) ?_
            refine Sim.seq ?_
            refine Sim.region0 ?_
            refine SimI.run 1 [(8, .one (lb true))] [] (by kernel_rfl) ?_
            refine SimI.done (by kernel_rfl) ?_
            refine SimE.thenN ?_
            refine Sim.ret ?_
            refine SimE.thenR ?_
            exact SimE.fin (by kernel_rfl)
          · refine SimI.run 1 [(40, .agg (Command.cells a1))] [] (by kernel_rfl) ?_
            refine SimI.bind (og := F35 n a1) { dst := some 41, op := POp.call true [[]] 35 [Operand.tmp 40], guard := some (39, false), hints := [] } (fun r5 => [(41, .one (lb r5))]) (fun r5 => []) (by kernel_rfl) (fun r5 hr => pOp_eff (by kernel_rfl) (by kernel_rfl) (eff_call (ARGS := [.agg (Command.cells a1)]) (by kernel_rfl) (args_clean (by kernel_rfl) args_nil) (F35_ok n a1 r5 hr) (by kernel_rfl))) (fun r5 => ?_)
            refine SimI.run 2 [(43, .one (lb (!(r5)))), (42, .one (lb (!(r5))))] [] (by kernel_rfl) ?_
            refine SimI.done (by kernel_rfl) ?_
            refine SimE.thenN ?_
            refine Sim.cond (!(r5)) (by kernel_rfl) ?_ ?_
            · refine Sim.seq ?_
              refine Sim.region0 ?_
              refine SimI.run 1 [(8, .one (lb true))] [] (by kernel_rfl) ?_
              refine SimI.done (by kernel_rfl) ?_
              refine SimE.thenN ?_
              refine Sim.ret ?_
              refine SimE.thenR ?_
              exact SimE.fin (by kernel_rfl)
            · refine Sim.skip ?_
              refine SimE.thenN ?_
              refine Sim.seq ?_
              refine Sim.region0 ?_
              refine SimI.run 1 [(45, .agg (Command.cells a0))] [] (by kernel_rfl) ?_
              refine SimI.bind (og := F34 n a0) { dst := some 46, op := POp.call true [[]] 34 [Operand.tmp 45], guard := none, hints := [] } (fun r6 => [(46, .tup [.one (ls r6.1), .one (li .i64 r6.2)])]) (fun r6 => []) (by kernel_rfl) (fun r6 hr => pOp_eff (by kernel_rfl) (by kernel_rfl) (eff_call (ARGS := [.agg (Command.cells a0)]) (by kernel_rfl) (args_clean (by kernel_rfl) args_nil) (F34_ok n a0 r6 hr) (by kernel_rfl))) (fun r6 => ?_)
              refine SimI.run 5 [(10, .one (li .i64 r6.2)), (9, .one (ls r6.1)), (48, .one (li .i64 r6.2)), (47, .one (ls r6.1)), (44, .tup [.one (ls r6.1), .one (li .i64 r6.2)])] [] (by kernel_rfl) ?_
              refine SimI.done (by kernel_rfl) ?_
              refine SimE.thenN ?_
              refine Sim.seq ?_
              refine Sim.region0 ?_
              refine SimI.run 1 [(50, .agg (Command.cells a1))] [] (by kernel_rfl) ?_
              refine SimI.bind (og := F34 n a1) { dst := some 51, op := POp.call true [[]] 34 [Operand.tmp 50], guard := none, hints := [] } (fun r7 => [(51, .tup [.one (ls r7.1), .one (li .i64 r7.2)])]) (fun r7 => []) (by kernel_rfl) (fun r7 hr => pOp_eff (by kernel_rfl) (by kernel_rfl) (eff_call (ARGS := [.agg (Command.cells a1)]) (by kernel_rfl) (args_clean (by kernel_rfl) args_nil) (F34_ok n a1 r7 hr) (by kernel_rfl))) (fun r7 => ?_)
              refine SimI.run 5 [(12, .one (li .i64 r7.2)), (11, .one (ls r7.1)), (53, .one (li .i64 r7.2)), (52, .one (ls r7.1)), (49, .tup [.one (ls r7.1), .one (li .i64 r7.2)])] [] (by kernel_rfl) ?_
              refine SimI.done (by kernel_rfl) ?_
              refine SimE.thenN ?_
              refine Sim.seq ?_
              refine Sim.region0 ?_
              refine SimI.run 2 [(56, .one (ls a2)), (55, .one (ls r6.1))] [] (by kernel_rfl) ?_
              refine SimI.guard (c := r6.1.size + a2.size ≤ 9223372036854775807) { dst := some 57, op := POp.prim (Prim.bin BinOp.add 9 false false) [Operand.tmp 55, Operand.tmp 56], guard := none, hints := [] } [(57, .one (ls (r6.1 ++ a2)))] [] (by kernel_rfl) (fun hc => pOp_eff (by kernel_rfl) (by kernel_rfl) (eff_prim (by kernel_rfl) (pr_addS _ _ _ r6.1 a2 hc))) ?_
              refine SimI.bind (og := F40 n (r6.1 ++ a2)) { dst := some 58, op := POp.call true [[]] 40 [Operand.tmp 57], guard := none, hints := [] } (fun r8 => [(58, .tup [.agg (Command.cells r8.1), .one (li .i64 r8.2.1), .one (li .i64 r8.2.2)])]) (fun r8 => []) (by kernel_rfl) (fun r8 hr => pOp_eff (by kernel_rfl) (by kernel_rfl) (eff_call (ARGS := [.one (ls (r6.1 ++ a2))]) (by kernel_rfl) (args_clean (by kernel_rfl) args_nil) (F40_ok n (r6.1 ++ a2) r8 hr) (by kernel_rfl))) (fun r8 => ?_)
              refine SimI.run 8 [(15, .one (li .i64 r8.2.2)), (14, .one (li .i64 r8.2.1)), (13, .one (.ptr 13 0)), (61, .one (li .i64 r8.2.2)), (60, .one (li .i64 r8.2.1)), (59, .agg (Command.cells r8.1)), (54, .tup [.agg (Command.cells r8.1), .one (li .i64 r8.2.1), .one (li .i64 r8.2.2)])] [(13, some (.cells (Command.cells r8.1))), (13, some (.cells [li .i64 0, li .i64 0, li .i64 0, li .i64 0, li .i64 0, li .i64 0, li .i64 0, ls ByteArray.empty, li .i64 0, ls ByteArray.empty, li .i64 0, ls ByteArray.empty, li .i64 0, ls ByteArray.empty, li .i64 0, ls ByteArray.empty, li .i64 0, li .i64 0, li .i64 0, li .i64 0, li .i64 0, li .i64 0]))] (by kernel_rfl) ?_
              refine SimI.done (by kernel_rfl) ?_
              refine SimE.thenN ?_
              refine Sim.seq ?_
              refine Sim.seq ?_
              refine Sim.region0 ?_
              refine SimI.run 3 [(64, .one (lb (r6.2 != 0))), (63, .one (lb (r6.2 != 0))), (62, .one (li .i64 r6.2))] [] (by kernel_rfl) ?_
              refine SimI.split 64 (r6.2 != 0) (by kernel_rfl) ?_ ?_
              · refine SimI.run 23 [(87, .one (lb true)), (86, .tup []), (85, .tup []), (84, .tup []), (83, .one (lb true)), (82, .one (lb true)), (81, .tup []), (80, .tup []), (79, .tup []), (78, .tup []), (77, .one (lb true)), (76, .one (lb true)), (75, .tup []), (74, .tup []), (73, .tup []), (72, .one (lb true)), (71, .one (lb true)), (70, .tup []), (69, .tup []), (68, .one (lb true)), (67, .one (lb true)), (66, .tup []), (65, .tup [])] [] (by kernel_rfl) ?_
                refine SimI.done (by kernel_rfl) ?_
                refine SimE.thenN ?_
                refine Sim.condT (by kernel_rfl) ?_
                refine Sim.seq ?_
                refine Sim.region0 ?_
                refine SimI.run 1 [(8, .one (lb false))] [] (by kernel_rfl) ?_
                refine SimI.done (by kernel_rfl) ?_
                refine SimE.thenN ?_
                refine Sim.ret ?_
                refine SimE.thenR ?_
                exact SimE.fin (by kernel_rfl)
              · refine SimI.run 4 [(68, .one (lb (r7.2 != 0))), (67, .one (lb (r7.2 != 0))), (66, .one (lb (r7.2 != 0))), (65, .one (li .i64 r7.2))] [] (by kernel_rfl) ?_
                refine SimI.split 68 (r7.2 != 0) (by kernel_rfl) ?_ ?_
                · refine SimI.run 19 [(87, .one (lb true)), (86, .tup []), (85, .tup []), (84, .tup []), (83, .one (lb true)), (82, .one (lb true)), (81, .tup []), (80, .tup []), (79, .tup []), (78, .tup []), (77, .one (lb true)), (76, .one (lb true)), (75, .tup []), (74, .tup []), (73, .tup []), (72, .one (lb true)), (71, .one (lb true)), (70, .tup []), (69, .tup [])] [] (by kernel_rfl) ?_
                  refine SimI.done (by kernel_rfl) ?_
                  refine SimE.thenN ?_
                  refine Sim.condT (by kernel_rfl) ?_
                  refine Sim.seq ?_
                  refine Sim.region0 ?_
                  refine SimI.run 1 [(8, .one (lb false))] [] (by kernel_rfl) ?_
                  refine SimI.done (by kernel_rfl) ?_
                  refine SimE.thenN ?_
                  refine Sim.ret ?_
                  refine SimE.thenR ?_
                  exact SimE.fin (by kernel_rfl)
                · refine SimI.run 4 [(72, .one (lb (r8.2.2 != 0))), (71, .one (lb (r8.2.2 != 0))), (70, .one (lb (r8.2.2 != 0))), (69, .one (li .i64 r8.2.2))] [] (by kernel_rfl) ?_
                  refine SimI.split 72 (r8.2.2 != 0) (by kernel_rfl) ?_ ?_
                  · refine SimI.run 15 [(87, .one (lb true)), (86, .tup []), (85, .tup []), (84, .tup []), (83, .one (lb true)), (82, .one (lb true)), (81, .tup []), (80, .tup []), (79, .tup []), (78, .tup []), (77, .one (lb true)), (76, .one (lb true)), (75, .tup []), (74, .tup []), (73, .tup [])] [] (by kernel_rfl) ?_
                    refine SimI.done (by kernel_rfl) ?_
                    refine SimE.thenN ?_
                    refine Sim.condT (by kernel_rfl) ?_
                    refine Sim.seq ?_
                    refine Sim.region0 ?_
                    refine SimI.run 1 [(8, .one (lb false))] [] (by kernel_rfl) ?_
                    refine SimI.done (by kernel_rfl) ?_
                    refine SimE.thenN ?_
                    refine Sim.ret ?_
                    refine SimE.thenR ?_
                    exact SimE.fin (by kernel_rfl)
                  · refine SimI.run 2 [(74, .agg (Command.cells a0)), (73, .agg (Command.cells r8.1))] [] (by kernel_rfl) ?_
                    refine SimI.step { dst := some 75, op := POp.prim (Prim.bin BinOp.neq 57 false false) [Operand.tmp 73, Operand.tmp 74], guard := some (72, false), hints := [] } [(75, .one (lb (!(Command.eqb r8.1 a0))))] [] (by kernel_rfl) (pOp_eff (by kernel_rfl) (by kernel_rfl) (eff_prim (by kernel_rfl) (Command_eqn r8.1 a0 _ _))) ?_
                    refine SimI.run 2 [(77, .one (lb (!(Command.eqb r8.1 a0)))), (76, .one (lb (!(Command.eqb r8.1 a0))))] [] (by kernel_rfl) ?_
                    refine SimI.split 77 (!(Command.eqb r8.1 a0)) (by kernel_rfl) ?_ ?_
                    · refine SimI.run 10 [(87, .one (lb true)), (86, .tup []), (85, .tup []), (84, .tup []), (83, .one (lb true)), (82, .one (lb true)), (81, .tup []), (80, .tup []), (79, .tup []), (78, .tup [])] [] (by kernel_rfl) ?_
                      refine SimI.done (by kernel_rfl) ?_
                      refine SimE.thenN ?_
                      refine Sim.condT (by kernel_rfl) ?_
                      refine Sim.seq ?_
                      refine Sim.region0 ?_
                      refine SimI.run 1 [(8, .one (lb false))] [] (by kernel_rfl) ?_
                      refine SimI.done (by kernel_rfl) ?_
                      refine SimE.thenN ?_
                      refine Sim.ret ?_
                      refine SimE.thenR ?_
                      exact SimE.fin (by kernel_rfl)
                    · refine SimI.run 6 [(83, .one (lb (r8.2.1 != (r6.1.size : Int)))), (82, .one (lb (r8.2.1 != (r6.1.size : Int)))), (81, .one (lb (r8.2.1 != (r6.1.size : Int)))), (80, .one (li .i64 (r6.1.size : Int))), (79, .one (ls r6.1)), (78, .one (li .i64 r8.2.1))] [] (by kernel_rfl) ?_
                      refine SimI.split 83 (r8.2.1 != (r6.1.size : Int)) (by kernel_rfl) ?_ ?_
                      · refine SimI.run 4 [(87, .one (lb true)), (86, .tup []), (85, .tup []), (84, .tup [])] [] (by kernel_rfl) ?_
                        refine SimI.done (by kernel_rfl) ?_
                        refine SimE.thenN ?_
                        refine Sim.condT (by kernel_rfl) ?_
                        refine Sim.seq ?_
                        refine Sim.region0 ?_
                        refine SimI.run 1 [(8, .one (lb false))] [] (by kernel_rfl) ?_
                        refine SimI.done (by kernel_rfl) ?_
                        refine SimE.thenN ?_
                        refine Sim.ret ?_
                        refine SimE.thenR ?_
                        exact SimE.fin (by kernel_rfl)
                      · refine SimI.run 4 [(87, .one (lb ((r6.1.size : Int) == 0))), (86, .one (lb ((r6.1.size : Int) == 0))), (85, .one (li .i64 (r6.1.size : Int))), (84, .one (ls r6.1))] [] (by kernel_rfl) ?_
                        refine SimI.done (by kernel_rfl) ?_
                        refine SimE.thenN ?_
                        refine Sim.cond ((r6.1.size : Int) == 0) (by kernel_rfl) ?_ ?_
                        · refine Sim.seq ?_
                          refine Sim.region0 ?_
                          refine SimI.run 1 [(8, .one (lb false))] [] (by kernel_rfl) ?_
                          refine SimI.done (by kernel_rfl) ?_
                          refine SimE.thenN ?_
                          refine Sim.ret ?_
                          refine SimE.thenR ?_
                          exact SimE.fin (by kernel_rfl)
                        · refine Sim.skip ?_
                          refine SimE.thenN ?_
                          refine Sim.seq ?_
                          refine Sim.region0 ?_
                          refine SimI.run 5 [(93, .one (li .i64 (r6.1.size : Int))), (92, .one (ls r6.1)), (91, .one (li .i64 (IntKind.wrap .i64 a3))), (90, .one (li .u8 a3)), (89, .one (ls r6.1))] [] (by kernel_rfl) ?_
                          refine SimI.guard (c := (r6.1.size : Int) ≠ 0) { dst := some 94, op := POp.prim (Prim.bin BinOp.rem 3 false false) [Operand.tmp 91, Operand.tmp 93], guard := none, hints := [] } [(94, .one (li .i64 (Int.tmod (IntKind.wrap .i64 a3) (r6.1.size : Int))))] [] (by kernel_rfl) (fun hc => pOp_eff (by kernel_rfl) (by kernel_rfl) (eff_prim (by kernel_rfl) (pr_rem _ _ _ .i64 (IntKind.wrap .i64 a3) (r6.1.size : Int) hc))) ?_
                          refine SimI.guard (c := 0 ≤ (Int.tmod (IntKind.wrap .i64 a3) (r6.1.size : Int) : Int) ∧ (Int.tmod (IntKind.wrap .i64 a3) (r6.1.size : Int) : Int) ≤ (r6.1.size : Int)) { dst := some 95, op := POp.prim (Prim.slice 9 false true) [Operand.tmp 89, Operand.tmp 94], guard := none, hints := [] } [(95, .one (ls (r6.1.extract 0 (Int.tmod (IntKind.wrap .i64 a3) (r6.1.size : Int)).toNat)))] [] (by kernel_rfl) (fun hc => pOp_eff (by kernel_rfl) (by kernel_rfl) (eff_prim (by kernel_rfl) (pr_cutH (s := r6.1) (l := .i64) (b := Int.tmod (IntKind.wrap .i64 a3) (r6.1.size : Int)) Try.underlying9 hc))) ?_
                          refine SimI.bind (og := F40 n (r6.1.extract 0 (Int.tmod (IntKind.wrap .i64 a3) (r6.1.size : Int)).toNat)) { dst := some 96, op := POp.call true [[]] 40 [Operand.tmp 95], guard := none, hints := [] } (fun r9 => [(96, .tup [.agg (Command.cells r9.1), .one (li .i64 r9.2.1), .one (li .i64 r9.2.2)])]) (fun r9 => []) (by kernel_rfl) (fun r9 hr => pOp_eff (by kernel_rfl) (by kernel_rfl) (eff_call (ARGS := [.one (ls (r6.1.extract 0 (Int.tmod (IntKind.wrap .i64 a3) (r6.1.size : Int)).toNat))]) (by kernel_rfl) (args_clean (by kernel_rfl) args_nil) (F40_ok n (r6.1.extract 0 (Int.tmod (IntKind.wrap .i64 a3) (r6.1.size : Int)).toNat) r9 hr) (by kernel_rfl))) (fun r9 => ?_)
                          refine SimI.run 8 [(18, .one (li .i64 r9.2.2)), (17, .one (li .i64 r9.2.1)), (16, .one (.ptr 16 0)), (99, .one (li .i64 r9.2.2)), (98, .one (li .i64 r9.2.1)), (97, .agg (Command.cells r9.1)), (88, .tup [.agg (Command.cells r9.1), .one (li .i64 r9.2.1), .one (li .i64 r9.2.2)])] [(16, some (.cells (Command.cells r9.1))), (16, some (.cells [li .i64 0, li .i64 0, li .i64 0, li .i64 0, li .i64 0, li .i64 0, li .i64 0, ls ByteArray.empty, li .i64 0, ls ByteArray.empty, li .i64 0, ls ByteArray.empty, li .i64 0, ls ByteArray.empty, li .i64 0, ls ByteArray.empty, li .i64 0, li .i64 0, li .i64 0, li .i64 0, li .i64 0, li .i64 0]))] (by kernel_rfl) ?_
                          refine SimI.done (by kernel_rfl) ?_
                          refine SimE.thenN ?_
                          refine Sim.seq ?_
                          refine Sim.region0 ?_
                          refine SimI.run 3 [(102, .one (lb (r9.2.2 != 0))), (101, .one (lb (r9.2.2 != 0))), (100, .one (li .i64 r9.2.2))] [] (by kernel_rfl) ?_
                          refine SimI.split 102 (r9.2.2 != 0) (by kernel_rfl) ?_ ?_
                          · refine SimI.run 4 [(106, .one (lb (r9.2.1 == 0))), (105, .one (lb (r9.2.1 == 0))), (104, .one (lb (r9.2.1 == 0))), (103, .one (li .i64 r9.2.1))] [] (by kernel_rfl) ?_
                            refine SimI.split 106 (r9.2.1 == 0) (by kernel_rfl) ?_ ?_
                            · refine SimI.run 5 [(111, .agg (Command.cells a1)), (110, .agg (Command.cells a0)), (109, .one (lb (r6.1.toList == r7.1.toList))), (108, .one (ls r7.1)), (107, .one (ls r6.1))] [] (by kernel_rfl) ?_
                              refine SimI.step { dst := some 112, op := POp.prim (Prim.bin BinOp.eql 57 false false) [Operand.tmp 110, Operand.tmp 111], guard := some (106, true), hints := [] } [(112, .one (lb (Command.eqb a0 a1)))] [] (by kernel_rfl) (pOp_eff (by kernel_rfl) (by kernel_rfl) (eff_prim (by kernel_rfl) (Command_eql a0 a1 _ _))) ?_
                              refine SimI.run 3 [(8, .one (lb ((r6.1.toList == r7.1.toList) == (Command.eqb a0 a1)))), (114, .one (lb ((r6.1.toList == r7.1.toList) == (Command.eqb a0 a1)))), (113, .one (lb ((r6.1.toList == r7.1.toList) == (Command.eqb a0 a1))))] [] (by kernel_rfl) ?_
                              refine SimI.done (by kernel_rfl) ?_
                              refine SimE.thenN ?_
                              refine Sim.ret ?_
                              exact SimE.fin (by kernel_rfl)
                            · refine SimI.run 9 [(8, .one (lb false)), (114, .one (lb false)), (113, .tup []), (112, .tup []), (111, .tup []), (110, .tup []), (109, .tup []), (108, .tup []), (107, .tup [])] [] (by kernel_rfl) ?_
                              refine SimI.done (by kernel_rfl) ?_
                              refine SimE.thenN ?_
                              refine Sim.ret ?_
                              exact SimE.fin (by kernel_rfl)
                          · refine SimI.run 13 [(8, .one (lb false)), (114, .one (lb false)), (113, .tup []), (112, .tup []), (111, .tup []), (110, .tup []), (109, .tup []), (108, .tup []), (107, .tup []), (106, .one (lb false)), (105, .one (lb false)), (104, .tup []), (103, .tup [])] [] (by kernel_rfl) ?_
                            refine SimI.done (by kernel_rfl) ?_
                            refine SimE.thenN ?_
                            refine Sim.ret ?_
                            exact SimE.fin (by kernel_rfl)


end Go.Proofs.Ythmbegagkgdopaa
