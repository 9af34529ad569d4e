/-
  Functions of the program as functions of Lean. No condition.
-/
import Derived.Test.YthmbegagkgdopaaCmdSpoilsP1
namespace Go.Proofs.Ythmbegagkgdopaa
open Go Go.Rx
set_option maxRecDepth 100000
set_option linter.unusedVariables false
set_option linter.unusedSimpArgs false
set_option linter.unnecessarySimpa false
-- 33: vedette/vedettelaw10.fewCmd
def F33_e : Bool → PV × List Ob := fun r => (.one (lb r), [])
def F33 (n : Nat) (a0 : Command) : Option Bool :=
  if decide ((40 : Int) < (a0.F.a0.Text.size : Int)) then
    some false
  else
    if decide ((40 : Int) < (a0.F.a1.Text.size : Int)) then
      some false
    else
      if decide ((40 : Int) < (a0.F.a2.Text.size : Int)) then
        some false
      else
        if decide ((40 : Int) < (a0.F.a3.Text.size : Int)) then
          some false
        else
          some (decide ((a0.Value.Text.size : Int) ≤ 40))
theorem F33_ok (n : Nat) (a0 : Command) : ∀ r, F33 n a0 = some r → D 33 [.agg (Command.cells a0)] [] = some (F33_e r) := by
  refine fn_to (D := D) (n := n + 8) (nt := 20) (rs := pc33_r) (c := pc33_c26) (L := [(0, .agg (Command.cells a0))]) (M := []) (k := 0) rfl rfl rfl rfl rfl rfl rfl ?_
  unfold F33
  refine Sim.seq ?_
  refine Sim.region0 ?_
  refine SimI.run 2 [(2, .one (lb false)), (1, .one (.ptr 1 0))] [(1, some (.cells (Command.cells a0)))] (by kernel_rfl) ?_
  refine SimI.done (by kernel_rfl) ?_
  refine SimE.thenN ?_
  refine Sim.seq ?_
  refine Sim.seq ?_
  refine Sim.region0 ?_
  refine SimI.run 1 [(3, .one (li .i64 0))] [] (by kernel_rfl) ?_
  refine SimI.done (by kernel_rfl) ?_
  refine SimE.thenN ?_
  refine Sim.block ?_
  refine Sim.loop ?_
  refine SimL.succ ?_
  refine Sim.seq ?_
  refine Sim.seq ?_
  refine Sim.region [(1, .one (.ptr 1 0)), (3, .one (li .i64 0))] [(1, some (.cells (Command.cells a0)))] (by kernel_rfl) ?_
  refine SimI.run 2 [(5, .one (lb true)), (4, .one (li .i64 0))] [] (by kernel_rfl) ?_
  refine SimI.done (by kernel_rfl) ?_
  refine SimE.thenN ?_
  refine Sim.condT (by kernel_rfl) ?_
  refine Sim.skip ?_
  refine SimE.thenN ?_
  refine Sim.seq ?_
  refine Sim.block ?_
  refine Sim.seq ?_
  refine Sim.region0 ?_
  refine SimI.run 7 [(14, .one (lb (decide ((40 : Int) < (a0.F.a0.Text.size : Int))))), (13, .one (li .i64 (a0.F.a0.Text.size : Int))), (12, .one (ls a0.F.a0.Text)), (11, .one (.ptr 1 7)), (10, .one (.ptr 1 6)), (9, .one (.ptr 1 6)), (8, .one (li .i64 0))] [] (by kernel_rfl) ?_
  refine SimI.done (by kernel_rfl) ?_
  refine SimE.thenN ?_
  refine Sim.cond (decide ((40 : Int) < (a0.F.a0.Text.size : Int))) (by kernel_rfl) ?_ ?_
  · refine Sim.seq ?_
    refine Sim.region0 ?_
    refine SimI.run 1 [(2, .one (lb false))] [] (by kernel_rfl) ?_
    refine SimI.done (by kernel_rfl) ?_
    refine SimE.thenN ?_
    refine Sim.ret ?_
    refine SimE.blockR ?_
    refine SimE.thenR ?_
    refine SimE.loopR ?_
    refine SimE.blockR ?_
    refine SimE.thenR ?_
    exact SimE.fin (by kernel_rfl)
  · refine Sim.skip ?_
    refine SimE.blockN ?_
    refine SimE.thenN ?_
    refine Sim.region0 ?_
    refine SimI.run 3 [(3, .one (li .i64 1)), (7, .one (li .i64 1)), (6, .one (li .i64 0))] [] (by kernel_rfl) ?_
    refine SimI.done (by kernel_rfl) ?_
    refine SimE.loopN ?_
    refine SimL.succ ?_
    refine Sim.seq ?_
    refine Sim.seq ?_
    refine Sim.region [(1, .one (.ptr 1 0)), (3, .one (li .i64 1))] [(1, some (.cells (Command.cells a0)))] (by kernel_rfl) ?_
    refine SimI.run 2 [(5, .one (lb true)), (4, .one (li .i64 1))] [] (by kernel_rfl) ?_
    refine SimI.done (by kernel_rfl) ?_
    refine SimE.thenN ?_
    refine Sim.condT (by kernel_rfl) ?_
    refine Sim.skip ?_
    refine SimE.thenN ?_
    refine Sim.seq ?_
    refine Sim.block ?_
    refine Sim.seq ?_
    refine Sim.region0 ?_
    refine SimI.run 7 [(14, .one (lb (decide ((40 : Int) < (a0.F.a1.Text.size : Int))))), (13, .one (li .i64 (a0.F.a1.Text.size : Int))), (12, .one (ls a0.F.a1.Text)), (11, .one (.ptr 1 9)), (10, .one (.ptr 1 8)), (9, .one (.ptr 1 6)), (8, .one (li .i64 1))] [] (by kernel_rfl) ?_
    refine SimI.done (by kernel_rfl) ?_
    refine SimE.thenN ?_
    refine Sim.cond (decide ((40 : Int) < (a0.F.a1.Text.size : Int))) (by kernel_rfl) ?_ ?_
    · refine Sim.seq ?_
      refine Sim.region0 ?_
      refine SimI.run 1 [(2, .one (lb false))] [] (by kernel_rfl) ?_
      refine SimI.done (by kernel_rfl) ?_
      refine SimE.thenN ?_
      refine Sim.ret ?_
      refine SimE.blockR ?_
      refine SimE.thenR ?_
      refine SimE.loopR ?_
      refine SimE.blockR ?_
      refine SimE.thenR ?_
      exact SimE.fin (by kernel_rfl)
    · refine Sim.skip ?_
      refine SimE.blockN ?_
      refine SimE.thenN ?_
      refine Sim.region0 ?_
      refine SimI.run 3 [(3, .one (li .i64 2)), (7, .one (li .i64 2)), (6, .one (li .i64 1))] [] (by kernel_rfl) ?_
      refine SimI.done (by kernel_rfl) ?_
      refine SimE.loopN ?_
      refine SimL.succ ?_
      refine Sim.seq ?_
      refine Sim.seq ?_
      refine Sim.region [(1, .one (.ptr 1 0)), (3, .one (li .i64 2))] [(1, some (.cells (Command.cells a0)))] (by kernel_rfl) ?_
      refine SimI.run 2 [(5, .one (lb true)), (4, .one (li .i64 2))] [] (by kernel_rfl) ?_
      refine SimI.done (by kernel_rfl) ?_
      refine SimE.thenN ?_
      refine Sim.condT (by kernel_rfl) ?_
      refine Sim.skip ?_
      refine SimE.thenN ?_
      refine Sim.seq ?_
      refine Sim.block ?_
      refine Sim.seq ?_
      refine Sim.region0 ?_
      refine SimI.run 7 [(14, .one (lb (decide ((40 : Int) < (a0.F.a2.Text.size : Int))))), (13, .one (li .i64 (a0.F.a2.Text.size : Int))), (12, .one (ls a0.F.a2.Text)), (11, .one (.ptr 1 11)), (10, .one (.ptr 1 10)), (9, .one (.ptr 1 6)), (8, .one (li .i64 2))] [] (by kernel_rfl) ?_
      refine SimI.done (by kernel_rfl) ?_
      refine SimE.thenN ?_
      refine Sim.cond (decide ((40 : Int) < (a0.F.a2.Text.size : Int))) (by kernel_rfl) ?_ ?_
      · refine Sim.seq ?_
        refine Sim.region0 ?_
        refine SimI.run 1 [(2, .one (lb false))] [] (by kernel_rfl) ?_
        refine SimI.done (by kernel_rfl) ?_
        refine SimE.thenN ?_
        refine Sim.ret ?_
        refine SimE.blockR ?_
        refine SimE.thenR ?_
        refine SimE.loopR ?_
        refine SimE.blockR ?_
        refine SimE.thenR ?_
        exact SimE.fin (by kernel_rfl)
      · refine Sim.skip ?_
        refine SimE.blockN ?_
        refine SimE.thenN ?_
        refine Sim.region0 ?_
        refine SimI.run 3 [(3, .one (li .i64 3)), (7, .one (li .i64 3)), (6, .one (li .i64 2))] [] (by kernel_rfl) ?_
        refine SimI.done (by kernel_rfl) ?_
        refine SimE.loopN ?_
        refine SimL.succ ?_
        refine Sim.seq ?_
        refine Sim.seq ?_
        refine Sim.region [(1, .one (.ptr 1 0)), (3, .one (li .i64 3))] [(1, some (.cells (Command.cells a0)))] (by kernel_rfl) ?_
        refine SimI.run 2 [(5, .one (lb true)), (4, .one (li .i64 3))] [] (by kernel_rfl) ?_
        refine SimI.done (by kernel_rfl) ?_
        refine SimE.thenN ?_
        refine Sim.condT (by kernel_rfl) ?_
        refine Sim.skip ?_
        refine SimE.thenN ?_
        refine Sim.seq ?_
        refine Sim.block ?_
        refine Sim.seq ?_
        refine Sim.region0 ?_
        refine SimI.run 7 [(14, .one (lb (decide ((40 : Int) < (a0.F.a3.Text.size : Int))))), (13, .one (li .i64 (a0.F.a3.Text.size : Int))), (12, .one (ls a0.F.a3.Text)), (11, .one (.ptr 1 13)), (10, .one (.ptr 1 12)), (9, .one (.ptr 1 6)), (8, .one (li .i64 3))] [] (by kernel_rfl) ?_
        refine SimI.done (by kernel_rfl) ?_
        refine SimE.thenN ?_
        refine Sim.cond (decide ((40 : Int) < (a0.F.a3.Text.size : Int))) (by kernel_rfl) ?_ ?_
        · refine Sim.seq ?_
          refine Sim.region0 ?_
          refine SimI.run 1 [(2, .one (lb false))] [] (by kernel_rfl) ?_
          refine SimI.done (by kernel_rfl) ?_
          refine SimE.thenN ?_
          refine Sim.ret ?_
          refine SimE.blockR ?_
          refine SimE.thenR ?_
          refine SimE.loopR ?_
          refine SimE.blockR ?_
          refine SimE.thenR ?_
          exact SimE.fin (by kernel_rfl)
        · refine Sim.skip ?_
          refine SimE.blockN ?_
          refine SimE.thenN ?_
          refine Sim.region0 ?_
          refine SimI.run 3 [(3, .one (li .i64 4)), (7, .one (li .i64 4)), (6, .one (li .i64 3))] [] (by kernel_rfl) ?_
          refine SimI.done (by kernel_rfl) ?_
          refine SimE.loopN ?_
          refine SimL.succ ?_
          refine Sim.seq ?_
          refine Sim.seq ?_
          refine Sim.region [(1, .one (.ptr 1 0)), (3, .one (li .i64 4))] [(1, some (.cells (Command.cells a0)))] (by kernel_rfl) ?_
          refine SimI.run 2 [(5, .one (lb false)), (4, .one (li .i64 4))] [] (by kernel_rfl) ?_
          refine SimI.done (by kernel_rfl) ?_
          refine SimE.thenN ?_
          refine Sim.condF (by kernel_rfl) ?_
          refine Sim.exit ?_
          refine SimE.thenX ?_
          refine SimE.loopX ?_
          refine SimE.blockX ?_
          refine SimE.thenN ?_
          refine Sim.seq ?_
          refine Sim.region0 ?_
          refine SimI.run 6 [(2, .one (lb (decide ((a0.Value.Text.size : Int) ≤ 40)))), (19, .one (lb (decide ((a0.Value.Text.size : Int) ≤ 40)))), (18, .one (li .i64 (a0.Value.Text.size : Int))), (17, .one (ls a0.Value.Text)), (16, .one (.ptr 1 15)), (15, .one (.ptr 1 14))] [] (by kernel_rfl) ?_
          refine SimI.done (by kernel_rfl) ?_
          refine SimE.thenN ?_
          refine Sim.ret ?_
          exact SimE.fin (by kernel_rfl)


-- 12: vedette/vedettelaw10.CmdSpoils
def F12_e : Bool → PV × List Ob := fun r => (.one (lb r), [])
def F12_j9 (n : Nat) (a0 : Command) (i4 : Int) (i5 : Int) (i6 : Int) (i7 : Int) (ii8 : Int) : Option Bool :=
    (F34 n (Command.mk i4 i5 a0.Which i6 a0.At a0.F a0.Value i7 ii8 a0.Rect)).bind fun (r10 : (ByteArray × Int)) =>
    (F35 n (Command.mk i4 i5 a0.Which i6 a0.At a0.F a0.Value i7 ii8 a0.Rect)).bind fun (r11 : Bool) =>
    if !(r11) then
      if r10.2 == 11 then
        (F39 n a0 (Command.mk i4 i5 a0.Which i6 a0.At a0.F a0.Value i7 ii8 a0.Rect)).bind fun (r12 : Bool) =>
        some (!(r12))
      else
        some false
    else
      some false
theorem F12_j9_ok (n : Nat) (a0 : Command) (a1 : Int) (i4 : Int) (i5 : Int) (i6 : Int) (i7 : Int) (ii8 : Int) : Sim Try.prog D (n + 8) pc12_c45 [(2, .one (.ptr 2 0)), (5, .one (.ptr 5 0))] [(2, some (.cells (Command.cells a0))), (5, some (.cells [li .i64 i4, li .i64 i5, li .i64 a0.Which, li .i64 i6, li .i64 a0.At.X, li .i64 a0.At.Y, li .i64 a0.F.a0.N, ls a0.F.a0.Text, li .i64 a0.F.a1.N, ls a0.F.a1.Text, li .i64 a0.F.a2.N, ls a0.F.a2.Text, li .i64 a0.F.a3.N, ls a0.F.a3.Text, li .i64 a0.Value.N, ls a0.Value.Text, li .i64 i7, li .i64 ii8, li .i64 a0.Rect.X0, li .i64 a0.Rect.Y0, li .i64 a0.Rect.X1, li .i64 a0.Rect.Y1]))] (F12_j9 n a0 i4 i5 i6 i7 ii8) (QF false pc12_r 0 F12_e) := by
    unfold F12_j9
    refine Sim.seq ?_
    refine Sim.region [(2, .one (.ptr 2 0)), (5, .one (.ptr 5 0))] [(2, some (.cells (Command.cells a0))), (5, some (.cells [li .i64 i4, li .i64 i5, li .i64 a0.Which, li .i64 i6, li .i64 a0.At.X, li .i64 a0.At.Y, li .i64 a0.F.a0.N, ls a0.F.a0.Text, li .i64 a0.F.a1.N, ls a0.F.a1.Text, li .i64 a0.F.a2.N, ls a0.F.a2.Text, li .i64 a0.F.a3.N, ls a0.F.a3.Text, li .i64 a0.Value.N, ls a0.Value.Text, li .i64 i7, li .i64 ii8, li .i64 a0.Rect.X0, li .i64 a0.Rect.Y0, li .i64 a0.Rect.X1, li .i64 a0.Rect.Y1]))] (by kernel_rfl) ?_
    refine SimI.run 1 [(38, .agg [li .i64 i4, li .i64 i5, li .i64 a0.Which, li .i64 i6, li .i64 a0.At.X, li .i64 a0.At.Y, li .i64 a0.F.a0.N, ls a0.F.a0.Text, li .i64 a0.F.a1.N, ls a0.F.a1.Text, li .i64 a0.F.a2.N, ls a0.F.a2.Text, li .i64 a0.F.a3.N, ls a0.F.a3.Text, li .i64 a0.Value.N, ls a0.Value.Text, li .i64 i7, li .i64 ii8, li .i64 a0.Rect.X0, li .i64 a0.Rect.Y0, li .i64 a0.Rect.X1, li .i64 a0.Rect.Y1])] [] (by kernel_rfl) ?_
    refine SimI.bind (og := F34 n (Command.mk i4 i5 a0.Which i6 a0.At a0.F a0.Value i7 ii8 a0.Rect)) { dst := some 39, op := POp.call true [[]] 34 [Operand.tmp 38], guard := none, hints := [] } (fun r10 => [(39, .tup [.one (ls r10.1), .one (li .i64 r10.2)])]) (fun r10 => []) (by kernel_rfl) (fun r10 hr => pOp_eff (by kernel_rfl) (by kernel_rfl) (eff_call (ARGS := [.agg [li .i64 i4, li .i64 i5, li .i64 a0.Which, li .i64 i6, li .i64 a0.At.X, li .i64 a0.At.Y, li .i64 a0.F.a0.N, ls a0.F.a0.Text, li .i64 a0.F.a1.N, ls a0.F.a1.Text, li .i64 a0.F.a2.N, ls a0.F.a2.Text, li .i64 a0.F.a3.N, ls a0.F.a3.Text, li .i64 a0.Value.N, ls a0.Value.Text, li .i64 i7, li .i64 ii8, li .i64 a0.Rect.X0, li .i64 a0.Rect.Y0, li .i64 a0.Rect.X1, li .i64 a0.Rect.Y1]]) (by kernel_rfl) (args_clean (by kernel_rfl) args_nil) (F34_ok n (Command.mk i4 i5 a0.Which i6 a0.At a0.F a0.Value i7 ii8 a0.Rect) r10 hr) (by kernel_rfl))) (fun r10 => ?_)
    refine SimI.run 5 [(7, .one (li .i64 r10.2)), (6, .one (ls r10.1)), (41, .one (li .i64 r10.2)), (40, .one (ls r10.1)), (37, .tup [.one (ls r10.1), .one (li .i64 r10.2)])] [] (by kernel_rfl) ?_
    refine SimI.done (by kernel_rfl) ?_
    refine SimE.thenN ?_
    refine Sim.seq ?_
    refine Sim.region0 ?_
    refine SimI.run 1 [(42, .agg [li .i64 i4, li .i64 i5, li .i64 a0.Which, li .i64 i6, li .i64 a0.At.X, li .i64 a0.At.Y, li .i64 a0.F.a0.N, ls a0.F.a0.Text, li .i64 a0.F.a1.N, ls a0.F.a1.Text, li .i64 a0.F.a2.N, ls a0.F.a2.Text, li .i64 a0.F.a3.N, ls a0.F.a3.Text, li .i64 a0.Value.N, ls a0.Value.Text, li .i64 i7, li .i64 ii8, li .i64 a0.Rect.X0, li .i64 a0.Rect.Y0, li .i64 a0.Rect.X1, li .i64 a0.Rect.Y1])] [] (by kernel_rfl) ?_
    refine SimI.bind (og := F35 n (Command.mk i4 i5 a0.Which i6 a0.At a0.F a0.Value i7 ii8 a0.Rect)) { dst := some 43, op := POp.call true [[]] 35 [Operand.tmp 42], guard := none, hints := [] } (fun r11 => [(43, .one (lb r11))]) (fun r11 => []) (by kernel_rfl) (fun r11 hr => pOp_eff (by kernel_rfl) (by kernel_rfl) (eff_call (ARGS := [.agg [li .i64 i4, li .i64 i5, li .i64 a0.Which, li .i64 i6, li .i64 a0.At.X, li .i64 a0.At.Y, li .i64 a0.F.a0.N, ls a0.F.a0.Text, li .i64 a0.F.a1.N, ls a0.F.a1.Text, li .i64 a0.F.a2.N, ls a0.F.a2.Text, li .i64 a0.F.a3.N, ls a0.F.a3.Text, li .i64 a0.Value.N, ls a0.Value.Text, li .i64 i7, li .i64 ii8, li .i64 a0.Rect.X0, li .i64 a0.Rect.Y0, li .i64 a0.Rect.X1, li .i64 a0.Rect.Y1]]) (by kernel_rfl) (args_clean (by kernel_rfl) args_nil) (F35_ok n (Command.mk i4 i5 a0.Which i6 a0.At a0.F a0.Value i7 ii8 a0.Rect) r11 hr) (by kernel_rfl))) (fun r11 => ?_)
    refine SimI.run 2 [(45, .one (lb (!(r11)))), (44, .one (lb (!(r11))))] [] (by kernel_rfl) ?_
    refine SimI.split 45 (!(r11)) (by kernel_rfl) ?_ ?_
    · refine SimI.run 4 [(49, .one (lb (r10.2 == 11))), (48, .one (lb (r10.2 == 11))), (47, .one (lb (r10.2 == 11))), (46, .one (li .i64 r10.2))] [] (by kernel_rfl) ?_
      refine SimI.split 49 (r10.2 == 11) (by kernel_rfl) ?_ ?_
      · refine SimI.run 2 [(51, .agg [li .i64 i4, li .i64 i5, li .i64 a0.Which, li .i64 i6, li .i64 a0.At.X, li .i64 a0.At.Y, li .i64 a0.F.a0.N, ls a0.F.a0.Text, li .i64 a0.F.a1.N, ls a0.F.a1.Text, li .i64 a0.F.a2.N, ls a0.F.a2.Text, li .i64 a0.F.a3.N, ls a0.F.a3.Text, li .i64 a0.Value.N, ls a0.Value.Text, li .i64 i7, li .i64 ii8, li .i64 a0.Rect.X0, li .i64 a0.Rect.Y0, li .i64 a0.Rect.X1, li .i64 a0.Rect.Y1]), (50, .agg (Command.cells a0))] [] (by kernel_rfl) ?_
        refine SimI.bind (og := F39 n a0 (Command.mk i4 i5 a0.Which i6 a0.At a0.F a0.Value i7 ii8 a0.Rect)) { dst := some 52, op := POp.call true [[], []] 39 [Operand.tmp 50, Operand.tmp 51], guard := some (49, true), hints := [] } (fun r12 => [(52, .one (lb r12))]) (fun r12 => []) (by kernel_rfl) (fun r12 hr => pOp_eff (by kernel_rfl) (by kernel_rfl) (eff_call (ARGS := [.agg (Command.cells a0), .agg [li .i64 i4, li .i64 i5, li .i64 a0.Which, li .i64 i6, li .i64 a0.At.X, li .i64 a0.At.Y, li .i64 a0.F.a0.N, ls a0.F.a0.Text, li .i64 a0.F.a1.N, ls a0.F.a1.Text, li .i64 a0.F.a2.N, ls a0.F.a2.Text, li .i64 a0.F.a3.N, ls a0.F.a3.Text, li .i64 a0.Value.N, ls a0.Value.Text, li .i64 i7, li .i64 ii8, li .i64 a0.Rect.X0, li .i64 a0.Rect.Y0, li .i64 a0.Rect.X1, li .i64 a0.Rect.Y1]]) (by kernel_rfl) (args_clean (by kernel_rfl) (args_clean (by kernel_rfl) args_nil)) (F39_ok n a0 (Command.mk i4 i5 a0.Which i6 a0.At a0.F a0.Value i7 ii8 a0.Rect) r12 hr) (by kernel_rfl))) (fun r12 => ?_)
        refine SimI.run 3 [(4, .one (lb (!(r12)))), (54, .one (lb (!(r12)))), (53, .one (lb (!(r12))))] [] (by kernel_rfl) ?_
        refine SimI.done (by kernel_rfl) ?_
        refine SimE.thenN ?_
        refine Sim.ret ?_
        exact SimE.fin (by kernel_rfl)
      · refine SimI.run 6 [(4, .one (lb false)), (54, .one (lb false)), (53, .tup []), (52, .tup []), (51, .tup []), (50, .tup [])] [] (by kernel_rfl) ?_
        refine SimI.done (by kernel_rfl) ?_
        refine SimE.thenN ?_
        refine Sim.ret ?_
        exact SimE.fin (by kernel_rfl)
    · refine SimI.run 10 [(4, .one (lb false)), (54, .one (lb false)), (53, .tup []), (52, .tup []), (51, .tup []), (50, .tup []), (49, .one (lb false)), (48, .one (lb false)), (47, .tup []), (46, .tup [])] [] (by kernel_rfl) ?_
      refine SimI.done (by kernel_rfl) ?_
      refine SimE.thenN ?_
      refine Sim.ret ?_
      exact SimE.fin (by kernel_rfl)

def F12 (n : Nat) (a0 : Command) (a1 : Int) : Option Bool :=
  ((some true)).bind fun (r1 : Bool) =>
  if !(r1) then
    some false
  else
    (F33 n a0).bind fun (r2 : Bool) =>
    if !(r2) then
      some true
    else
      (F35 n a0).bind fun (r3 : Bool) =>
      if !(r3) then
        some true
      else
        if (Int.tmod a1 6) == 0 then
          F12_j9 n a0 0 a0.ID a0.To a0.Client a0.Session
        else
          if (Int.tmod a1 6) == 1 then
            F12_j9 n a0 9 a0.ID a0.To a0.Client a0.Session
          else
            if (Int.tmod a1 6) == 2 then
              F12_j9 n a0 a0.Kind a0.ID a0.To 4 a0.Session
            else
              if (Int.tmod a1 6) == 3 then
                F12_j9 n a0 a0.Kind a0.ID a0.To a0.Client (-1)
              else
                if (Int.tmod a1 6) == 4 then
                  F12_j9 n a0 a0.Kind a0.ID 101 a0.Client a0.Session
                else
                  F12_j9 n a0 a0.Kind (-1) a0.To a0.Client a0.Session
theorem F12_ok (n : Nat) (a0 : Command) (a1 : Int) : ∀ r, F12 n a0 a1 = some r → D 12 [.agg (Command.cells a0), .one (li .u8 a1)] [] = some (F12_e r) := by
  refine fn_to (D := D) (n := n + 8) (nt := 55) (rs := pc12_r) (c := pc12_c50) (L := [(0, .agg (Command.cells a0)), (1, .one (li .u8 a1))]) (M := []) (k := 0) rfl rfl rfl rfl rfl rfl rfl ?_
  unfold F12
  refine Sim.seq ?_
  refine Sim.region0 ?_
  refine SimI.run 2 [(4, .one (lb false)), (2, .one (.ptr 2 0))] [(2, some (.cells (Command.cells a0)))] (by kernel_rfl) ?_
  refine SimI.done (by kernel_rfl) ?_
  refine SimE.thenN ?_
  refine Sim.seq ?_
  refine Sim.seq ?_
  refine Sim.region0 ?_
  refine SimI.bind (og := (some true)) { dst := some 8, op := POp.call true [] 32 [], guard := none, hints := [] } (fun r1 => [(8, .one (lb r1))]) (fun r1 => []) (by kernel_rfl) (fun r1 hr => pOp_eff (by kernel_rfl) (by kernel_rfl) (eff_call (ARGS := []) (by kernel_rfl) (args_nil) (F32_ok n r1 hr) (by kernel_rfl))) (fun r1 => ?_)
  refine SimI.run 1 [(9, .one (lb (!(r1))))] [] (by kernel_rfl) ?_
  refine SimI.done (by kernel_rfl) ?_
  refine SimE.thenN ?_
  refine Sim.cond (!(r1)) (by kernel_rfl) ?_ ?_
  · refine Sim.seq ?_
    refine Sim.region0 ?_
    refine SimI.run 1 [(4, .one (lb false))] [] (by kernel_rfl) ?_
    refine SimI.done (by kernel_rfl) ?_
    refine SimE.thenN ?_
    refine Sim.ret ?_
    refine SimE.thenR ?_
    exact SimE.fin (by kernel_rfl)
  · refine Sim.skip ?_
    refine SimE.thenN ?_
    refine Sim.seq ?_
    refine Sim.seq ?_
    refine Sim.region0 ?_
    refine SimI.run 1 [(10, .agg (Command.cells a0))] [] (by kernel_rfl) ?_
    refine SimI.bind (og := F33 n a0) { dst := some 11, op := POp.call true [[]] 33 [Operand.tmp 10], guard := none, hints := [] } (fun r2 => [(11, .one (lb r2))]) (fun r2 => []) (by kernel_rfl) (fun r2 hr => pOp_eff (by kernel_rfl) (by kernel_rfl) (eff_call (ARGS := [.agg (Command.cells a0)]) (by kernel_rfl) (args_clean (by kernel_rfl) args_nil) (F33_ok n a0 r2 hr) (by kernel_rfl))) (fun r2 => ?_)
    refine SimI.run 2 [(13, .one (lb (!(r2)))), (12, .one (lb (!(r2))))] [] (by kernel_rfl) ?_
    refine SimI.split 13 (!(r2)) (by kernel_rfl) ?_ ?_
    · refine SimI.run 4 [(17, .one (lb true)), (16, .tup []), (15, .tup []), (14, .tup [])] [] (by kernel_rfl) ?_
      refine SimI.done (by kernel_rfl) ?_
      refine SimE.thenN ?_
      refine Sim.condT (by kernel_rfl) ?_
      refine Sim.seq ?_
      refine Sim.region0 ?_
      refine SimI.run 1 [(4, .one (lb true))] [] (by kernel_rfl) ?_
      refine SimI.done (by kernel_rfl) ?_
      refine SimE.thenN ?_
      refine Sim.ret ?_
      refine SimE.thenR ?_
      exact SimE.fin (by kernel_rfl)
    · refine SimI.run 1 [(14, .agg (Command.cells a0))] [] (by kernel_rfl) ?_
      refine SimI.bind (og := F35 n a0) { dst := some 15, op := POp.call true [[]] 35 [Operand.tmp 14], guard := some (13, false), hints := [] } (fun r3 => [(15, .one (lb r3))]) (fun r3 => []) (by kernel_rfl) (fun r3 hr => pOp_eff (by kernel_rfl) (by kernel_rfl) (eff_call (ARGS := [.agg (Command.cells a0)]) (by kernel_rfl) (args_clean (by kernel_rfl) args_nil) (F35_ok n a0 r3 hr) (by kernel_rfl))) (fun r3 => ?_)
      refine SimI.run 2 [(17, .one (lb (!(r3)))), (16, .one (lb (!(r3))))] [] (by kernel_rfl) ?_
      refine SimI.done (by kernel_rfl) ?_
      refine SimE.thenN ?_
      refine Sim.cond (!(r3)) (by kernel_rfl) ?_ ?_
      · refine Sim.seq ?_
        refine Sim.region0 ?_
        refine SimI.run 1 [(4, .one (lb true))] [] (by kernel_rfl) ?_
        refine SimI.done (by kernel_rfl) ?_
        refine SimE.thenN ?_
        refine Sim.ret ?_
        refine SimE.thenR ?_
        exact SimE.fin (by kernel_rfl)
      · refine Sim.skip ?_
        refine SimE.thenN ?_
        refine Sim.seq ?_
        refine Sim.region0 ?_
        refine SimI.run 3 [(5, .one (.ptr 5 0)), (18, .agg (Command.cells a0))] [(5, some (.cells (Command.cells a0))), (5, some (.cells [li .i64 0, li .i64 0, li .i64 0, li .i64 0, li .i64 0, li .i64 0, li .i64 0, ls ByteArray.empty, li .i64 0, ls ByteArray.empty, li .i64 0, ls ByteArray.empty, li .i64 0, ls ByteArray.empty, li .i64 0, ls ByteArray.empty, li .i64 0, li .i64 0, li .i64 0, li .i64 0, li .i64 0, li .i64 0]))] (by kernel_rfl) ?_
        refine SimI.done (by kernel_rfl) ?_
        refine SimE.thenN ?_
        refine Sim.seq ?_
        refine Sim.seq ?_
        refine Sim.region0 ?_
        refine SimI.run 2 [(20, .one (li .u8 (Int.tmod a1 6))), (19, .one (li .u8 a1))] [] (by kernel_rfl) ?_
        refine SimI.done (by kernel_rfl) ?_
        refine SimE.thenN ?_
        refine Sim.block ?_
        refine Sim.seq ?_
        refine Sim.region0 ?_
        refine SimI.run 2 [(22, .one (lb ((Int.tmod a1 6) == 0))), (23, .one (lb ((Int.tmod a1 6) == 0)))] [] (by kernel_rfl) ?_
        refine SimI.done (by kernel_rfl) ?_
        refine SimE.thenN ?_
        refine Sim.cond ((Int.tmod a1 6) == 0) (by kernel_rfl) ?_ ?_
        · refine Sim.region0 ?_
          refine SimI.run 2 [(24, .one (.ptr 5 0))] [(5, some (.cells [li .i64 0, li .i64 a0.ID, li .i64 a0.Which, li .i64 a0.To, li .i64 a0.At.X, li .i64 a0.At.Y, li .i64 a0.F.a0.N, ls a0.F.a0.Text, li .i64 a0.F.a1.N, ls a0.F.a1.Text, li .i64 a0.F.a2.N, ls a0.F.a2.Text, li .i64 a0.F.a3.N, ls a0.F.a3.Text, li .i64 a0.Value.N, ls a0.Value.Text, li .i64 a0.Client, li .i64 a0.Session, li .i64 a0.Rect.X0, li .i64 a0.Rect.Y0, li .i64 a0.Rect.X1, li .i64 a0.Rect.Y1]))] (by kernel_rfl) ?_
          refine SimI.done (by kernel_rfl) ?_
          refine SimE.blockN ?_
          refine SimE.thenN ?_
          refine Sim.pre (ts := [2, 5]) (os := [2, 5]) (ow := []) [(2, .one (.ptr 2 0)), (5, .one (.ptr 5 0))] [(2, some (.cells (Command.cells a0))), (5, some (.cells [li .i64 0, li .i64 a0.ID, li .i64 a0.Which, li .i64 a0.To, li .i64 a0.At.X, li .i64 a0.At.Y, li .i64 a0.F.a0.N, ls a0.F.a0.Text, li .i64 a0.F.a1.N, ls a0.F.a1.Text, li .i64 a0.F.a2.N, ls a0.F.a2.Text, li .i64 a0.F.a3.N, ls a0.F.a3.Text, li .i64 a0.Value.N, ls a0.Value.Text, li .i64 a0.Client, li .i64 a0.Session, li .i64 a0.Rect.X0, li .i64 a0.Rect.Y0, li .i64 a0.Rect.X1, li .i64 a0.Rect.Y1]))] (by kernel_rfl) (by kernel_rfl) (by kernel_rfl) ?_
          exact F12_j9_ok n a0 a1 0 a0.ID a0.To a0.Client a0.Session
        · refine Sim.seq ?_
          refine Sim.region0 ?_
          refine SimI.run 2 [(25, .one (lb ((Int.tmod a1 6) == 1))), (26, .one (lb ((Int.tmod a1 6) == 1)))] [] (by kernel_rfl) ?_
          refine SimI.done (by kernel_rfl) ?_
          refine SimE.thenN ?_
          refine Sim.cond ((Int.tmod a1 6) == 1) (by kernel_rfl) ?_ ?_
          · refine Sim.region0 ?_
            refine SimI.run 2 [(27, .one (.ptr 5 0))] [(5, some (.cells [li .i64 9, li .i64 a0.ID, li .i64 a0.Which, li .i64 a0.To, li .i64 a0.At.X, li .i64 a0.At.Y, li .i64 a0.F.a0.N, ls a0.F.a0.Text, li .i64 a0.F.a1.N, ls a0.F.a1.Text, li .i64 a0.F.a2.N, ls a0.F.a2.Text, li .i64 a0.F.a3.N, ls a0.F.a3.Text, li .i64 a0.Value.N, ls a0.Value.Text, li .i64 a0.Client, li .i64 a0.Session, li .i64 a0.Rect.X0, li .i64 a0.Rect.Y0, li .i64 a0.Rect.X1, li .i64 a0.Rect.Y1]))] (by kernel_rfl) ?_
            refine SimI.done (by kernel_rfl) ?_
            refine SimE.blockN ?_
            refine SimE.thenN ?_
            refine Sim.pre (ts := [2, 5]) (os := [2, 5]) (ow := []) [(2, .one (.ptr 2 0)), (5, .one (.ptr 5 0))] [(2, some (.cells (Command.cells a0))), (5, some (.cells [li .i64 9, li .i64 a0.ID, li .i64 a0.Which, li .i64 a0.To, li .i64 a0.At.X, li .i64 a0.At.Y, li .i64 a0.F.a0.N, ls a0.F.a0.Text, li .i64 a0.F.a1.N, ls a0.F.a1.Text, li .i64 a0.F.a2.N, ls a0.F.a2.Text, li .i64 a0.F.a3.N, ls a0.F.a3.Text, li .i64 a0.Value.N, ls a0.Value.Text, li .i64 a0.Client, li .i64 a0.Session, li .i64 a0.Rect.X0, li .i64 a0.Rect.Y0, li .i64 a0.Rect.X1, li .i64 a0.Rect.Y1]))] (by kernel_rfl) (by kernel_rfl) (by kernel_rfl) ?_
            exact F12_j9_ok n a0 a1 9 a0.ID a0.To a0.Client a0.Session
          · refine Sim.seq ?_
            refine Sim.region0 ?_
            refine SimI.run 2 [(28, .one (lb ((Int.tmod a1 6) == 2))), (29, .one (lb ((Int.tmod a1 6) == 2)))] [] (by kernel_rfl) ?_
            refine SimI.done (by kernel_rfl) ?_
            refine SimE.thenN ?_
            refine Sim.cond ((Int.tmod a1 6) == 2) (by kernel_rfl) ?_ ?_
            · refine Sim.region0 ?_
              refine SimI.run 2 [(30, .one (.ptr 5 16))] [(5, some (.cells [li .i64 a0.Kind, li .i64 a0.ID, li .i64 a0.Which, li .i64 a0.To, li .i64 a0.At.X, li .i64 a0.At.Y, li .i64 a0.F.a0.N, ls a0.F.a0.Text, li .i64 a0.F.a1.N, ls a0.F.a1.Text, li .i64 a0.F.a2.N, ls a0.F.a2.Text, li .i64 a0.F.a3.N, ls a0.F.a3.Text, li .i64 a0.Value.N, ls a0.Value.Text, li .i64 4, li .i64 a0.Session, li .i64 a0.Rect.X0, li .i64 a0.Rect.Y0, li .i64 a0.Rect.X1, li .i64 a0.Rect.Y1]))] (by kernel_rfl) ?_
              refine SimI.done (by kernel_rfl) ?_
              refine SimE.blockN ?_
              refine SimE.thenN ?_
              refine Sim.pre (ts := [2, 5]) (os := [2, 5]) (ow := []) [(2, .one (.ptr 2 0)), (5, .one (.ptr 5 0))] [(2, some (.cells (Command.cells a0))), (5, some (.cells [li .i64 a0.Kind, li .i64 a0.ID, li .i64 a0.Which, li .i64 a0.To, li .i64 a0.At.X, li .i64 a0.At.Y, li .i64 a0.F.a0.N, ls a0.F.a0.Text, li .i64 a0.F.a1.N, ls a0.F.a1.Text, li .i64 a0.F.a2.N, ls a0.F.a2.Text, li .i64 a0.F.a3.N, ls a0.F.a3.Text, li .i64 a0.Value.N, ls a0.Value.Text, li .i64 4, li .i64 a0.Session, li .i64 a0.Rect.X0, li .i64 a0.Rect.Y0, li .i64 a0.Rect.X1, li .i64 a0.Rect.Y1]))] (by kernel_rfl) (by kernel_rfl) (by kernel_rfl) ?_
              exact F12_j9_ok n a0 a1 a0.Kind a0.ID a0.To 4 a0.Session
            · refine Sim.seq ?_
              refine Sim.region0 ?_
              refine SimI.run 2 [(31, .one (lb ((Int.tmod a1 6) == 3))), (32, .one (lb ((Int.tmod a1 6) == 3)))] [] (by kernel_rfl) ?_
              refine SimI.done (by kernel_rfl) ?_
              refine SimE.thenN ?_
              refine Sim.cond ((Int.tmod a1 6) == 3) (by kernel_rfl) ?_ ?_
              · refine Sim.region0 ?_
                refine SimI.run 2 [(33, .one (.ptr 5 17))] [(5, some (.cells [li .i64 a0.Kind, li .i64 a0.ID, li .i64 a0.Which, li .i64 a0.To, li .i64 a0.At.X, li .i64 a0.At.Y, li .i64 a0.F.a0.N, ls a0.F.a0.Text, li .i64 a0.F.a1.N, ls a0.F.a1.Text, li .i64 a0.F.a2.N, ls a0.F.a2.Text, li .i64 a0.F.a3.N, ls a0.F.a3.Text, li .i64 a0.Value.N, ls a0.Value.Text, li .i64 a0.Client, li .i64 (-1), li .i64 a0.Rect.X0, li .i64 a0.Rect.Y0, li .i64 a0.Rect.X1, li .i64 a0.Rect.Y1]))] (by kernel_rfl) ?_
                refine SimI.done (by kernel_rfl) ?_
                refine SimE.blockN ?_
                refine SimE.thenN ?_
                refine Sim.pre (ts := [2, 5]) (os := [2, 5]) (ow := []) [(2, .one (.ptr 2 0)), (5, .one (.ptr 5 0))] [(2, some (.cells (Command.cells a0))), (5, some (.cells [li .i64 a0.Kind, li .i64 a0.ID, li .i64 a0.Which, li .i64 a0.To, li .i64 a0.At.X, li .i64 a0.At.Y, li .i64 a0.F.a0.N, ls a0.F.a0.Text, li .i64 a0.F.a1.N, ls a0.F.a1.Text, li .i64 a0.F.a2.N, ls a0.F.a2.Text, li .i64 a0.F.a3.N, ls a0.F.a3.Text, li .i64 a0.Value.N, ls a0.Value.Text, li .i64 a0.Client, li .i64 (-1), li .i64 a0.Rect.X0, li .i64 a0.Rect.Y0, li .i64 a0.Rect.X1, li .i64 a0.Rect.Y1]))] (by kernel_rfl) (by kernel_rfl) (by kernel_rfl) ?_
                exact F12_j9_ok n a0 a1 a0.Kind a0.ID a0.To a0.Client (-1)
              · refine Sim.seq ?_
                refine Sim.region0 ?_
                refine SimI.run 2 [(34, .one (lb ((Int.tmod a1 6) == 4))), (35, .one (lb ((Int.tmod a1 6) == 4)))] [] (by kernel_rfl) ?_
                refine SimI.done (by kernel_rfl) ?_
                refine SimE.thenN ?_
                refine Sim.cond ((Int.tmod a1 6) == 4) (by kernel_rfl) ?_ ?_
                · refine Sim.region0 ?_
                  refine SimI.run 2 [(36, .one (.ptr 5 3))] [(5, some (.cells [li .i64 a0.Kind, li .i64 a0.ID, li .i64 a0.Which, li .i64 101, li .i64 a0.At.X, li .i64 a0.At.Y, li .i64 a0.F.a0.N, ls a0.F.a0.Text, li .i64 a0.F.a1.N, ls a0.F.a1.Text, li .i64 a0.F.a2.N, ls a0.F.a2.Text, li .i64 a0.F.a3.N, ls a0.F.a3.Text, li .i64 a0.Value.N, ls a0.Value.Text, li .i64 a0.Client, li .i64 a0.Session, li .i64 a0.Rect.X0, li .i64 a0.Rect.Y0, li .i64 a0.Rect.X1, li .i64 a0.Rect.Y1]))] (by kernel_rfl) ?_
                  refine SimI.done (by kernel_rfl) ?_
                  refine SimE.blockN ?_
                  refine SimE.thenN ?_
                  refine Sim.pre (ts := [2, 5]) (os := [2, 5]) (ow := []) [(2, .one (.ptr 2 0)), (5, .one (.ptr 5 0))] [(2, some (.cells (Command.cells a0))), (5, some (.cells [li .i64 a0.Kind, li .i64 a0.ID, li .i64 a0.Which, li .i64 101, li .i64 a0.At.X, li .i64 a0.At.Y, li .i64 a0.F.a0.N, ls a0.F.a0.Text, li .i64 a0.F.a1.N, ls a0.F.a1.Text, li .i64 a0.F.a2.N, ls a0.F.a2.Text, li .i64 a0.F.a3.N, ls a0.F.a3.Text, li .i64 a0.Value.N, ls a0.Value.Text, li .i64 a0.Client, li .i64 a0.Session, li .i64 a0.Rect.X0, li .i64 a0.Rect.Y0, li .i64 a0.Rect.X1, li .i64 a0.Rect.Y1]))] (by kernel_rfl) (by kernel_rfl) (by kernel_rfl) ?_
                  exact F12_j9_ok n a0 a1 a0.Kind a0.ID 101 a0.Client a0.Session
                · refine Sim.region0 ?_
                  refine SimI.run 2 [(21, .one (.ptr 5 1))] [(5, some (.cells [li .i64 a0.Kind, li .i64 (-1), li .i64 a0.Which, li .i64 a0.To, li .i64 a0.At.X, li .i64 a0.At.Y, li .i64 a0.F.a0.N, ls a0.F.a0.Text, li .i64 a0.F.a1.N, ls a0.F.a1.Text, li .i64 a0.F.a2.N, ls a0.F.a2.Text, li .i64 a0.F.a3.N, ls a0.F.a3.Text, li .i64 a0.Value.N, ls a0.Value.Text, li .i64 a0.Client, li .i64 a0.Session, li .i64 a0.Rect.X0, li .i64 a0.Rect.Y0, li .i64 a0.Rect.X1, li .i64 a0.Rect.Y1]))] (by kernel_rfl) ?_
                  refine SimI.done (by kernel_rfl) ?_
                  refine SimE.blockN ?_
                  refine SimE.thenN ?_
                  refine Sim.pre (ts := [2, 5]) (os := [2, 5]) (ow := []) [(2, .one (.ptr 2 0)), (5, .one (.ptr 5 0))] [(2, some (.cells (Command.cells a0))), (5, some (.cells [li .i64 a0.Kind, li .i64 (-1), li .i64 a0.Which, li .i64 a0.To, li .i64 a0.At.X, li .i64 a0.At.Y, li .i64 a0.F.a0.N, ls a0.F.a0.Text, li .i64 a0.F.a1.N, ls a0.F.a1.Text, li .i64 a0.F.a2.N, ls a0.F.a2.Text, li .i64 a0.F.a3.N, ls a0.F.a3.Text, li .i64 a0.Value.N, ls a0.Value.Text, li .i64 a0.Client, li .i64 a0.Session, li .i64 a0.Rect.X0, li .i64 a0.Rect.Y0, li .i64 a0.Rect.X1, li .i64 a0.Rect.Y1]))] (by kernel_rfl) (by kernel_rfl) (by kernel_rfl) ?_
                  exact F12_j9_ok n a0 a1 a0.Kind (-1) a0.To a0.Client a0.Session


end Go.Proofs.Ythmbegagkgdopaa
