/-
  Functions of the program as functions of Lean. No condition.
-/
import Derived.Test.YthmbegagkgdopaaFieldsBackP1
namespace Go.Proofs.Ythmbegagkgdopaa
open Go Go.Rx
set_option maxRecDepth 100000
set_option linter.unusedVariables false
set_option linter.unusedSimpArgs false
set_option linter.unnecessarySimpa false
-- 21: vedette/vedetteref6.IsDelta
def F21_e : Bool → PV × List (List Lf) := fun r => (.one (lb r), [])
def F21_u10 (n : Nat) : Option Bool :=
    some true
theorem F21_u10_ok (n : Nat) (a0 : Delta) : SimL Try.prog D (n + 8) (n + 4) pc21_c32 [(1, .one (.ptr 1 0)), (3, .one (li .i64 4))] ((1, some (.cells [li .i64 a0.ID, li .u8 a0.Mask, li .i64 a0.At.X, li .i64 a0.At.Y, li .i64 a0.F.a0.N, ls a0.F.a0.Text, li .i64 a0.F.a1.N, ls a0.F.a1.Text, li .i64 a0.F.a2.N, ls a0.F.a2.Text, li .i64 a0.F.a3.N, ls a0.F.a3.Text])) :: []) (F21_u10 n) (QB 0 (QT Try.prog D (n + 8) pc21_c38 (QF pc21_r 0 F21_e))) := by
    unfold F21_u10
    refine SimL.succ ?_
    refine Sim.seq ?_
    refine Sim.seq ?_
    refine Sim.region [(1, .one (.ptr 1 0)), (3, .one (li .i64 4))] ((1, some (.cells [li .i64 a0.ID, li .u8 a0.Mask, li .i64 a0.At.X, li .i64 a0.At.Y, li .i64 a0.F.a0.N, ls a0.F.a0.Text, li .i64 a0.F.a1.N, ls a0.F.a1.Text, li .i64 a0.F.a2.N, ls a0.F.a2.Text, li .i64 a0.F.a3.N, ls a0.F.a3.Text])) :: []) (by kernel_rfl) ?_
    refine SimI.run 2 [(45, .one (lb false)), (44, .one (li .i64 4))] [] (by kernel_rfl) ?_
    refine SimI.done (by kernel_rfl) ?_
    refine SimE.thenN ?_
    refine Sim.condF (by kernel_rfl) ?_
    refine Sim.exit ?_
    refine SimE.thenX ?_
    refine SimE.loopX ?_
    refine SimE.blockX ?_
    refine SimE.thenN ?_
    refine Sim.seq ?_
    refine Sim.region0 ?_
    refine SimI.run 1 [(2, .one (lb true))] [] (by kernel_rfl) ?_
    refine SimI.done (by kernel_rfl) ?_
    refine SimE.thenN ?_
    refine Sim.ret ?_
    exact SimE.fin (by kernel_rfl)

def F21_u8 (n : Nat) (a0 : Delta) : Option Bool :=
    (F27 n a0.F.a3).bind fun (r9 : Bool) =>
    if !(r9) then
      some false
    else
      if (bitsI .and .u8 (shrI .u8 a0.Mask 4) 1) == 0 then
        if !(Field.eqb a0.F.a3 (Field.mk 0 ByteArray.empty)) then
          some false
        else
          F21_u10 n
      else
        F21_u10 n
theorem F21_u8_ok (n : Nat) (a0 : Delta) : SimL Try.prog D (n + 8) (n + 5) pc21_c32 [(1, .one (.ptr 1 0)), (3, .one (li .i64 3))] ((1, some (.cells [li .i64 a0.ID, li .u8 a0.Mask, li .i64 a0.At.X, li .i64 a0.At.Y, li .i64 a0.F.a0.N, ls a0.F.a0.Text, li .i64 a0.F.a1.N, ls a0.F.a1.Text, li .i64 a0.F.a2.N, ls a0.F.a2.Text, li .i64 a0.F.a3.N, ls a0.F.a3.Text])) :: []) (F21_u8 n a0) (QB 0 (QT Try.prog D (n + 8) pc21_c38 (QF pc21_r 0 F21_e))) := by
    unfold F21_u8
    refine SimL.succ ?_
    refine Sim.seq ?_
    refine Sim.seq ?_
    refine Sim.region [(1, .one (.ptr 1 0)), (3, .one (li .i64 3))] ((1, some (.cells [li .i64 a0.ID, li .u8 a0.Mask, li .i64 a0.At.X, li .i64 a0.At.Y, li .i64 a0.F.a0.N, ls a0.F.a0.Text, li .i64 a0.F.a1.N, ls a0.F.a1.Text, li .i64 a0.F.a2.N, ls a0.F.a2.Text, li .i64 a0.F.a3.N, ls a0.F.a3.Text])) :: []) (by kernel_rfl) ?_
    refine SimI.run 2 [(45, .one (lb true)), (44, .one (li .i64 3))] [] (by kernel_rfl) ?_
    refine SimI.done (by kernel_rfl) ?_
    refine SimE.thenN ?_
    refine Sim.condT (by kernel_rfl) ?_
    refine Sim.skip ?_
    refine SimE.thenN ?_
    refine Sim.seq ?_
    refine Sim.block ?_
    refine Sim.seq ?_
    refine Sim.region0 ?_
    refine SimI.run 4 [(51, .agg [li .i64 a0.F.a3.N, ls a0.F.a3.Text]), (50, .one (.ptr 1 10)), (49, .one (.ptr 1 4)), (48, .one (li .i64 3))] [] (by kernel_rfl) ?_
    refine SimI.bind (og := F27 n a0.F.a3) { dst := some 52, op := POp.call true [[]] 27 [Operand.tmp 51], guard := none, hints := [] } (fun r9 => [(52, .one (lb r9))]) (fun r9 => []) (by kernel_rfl) (fun r9 hr => pOp_eff (by kernel_rfl) (by kernel_rfl) (eff_call (ARGS := [.agg [li .i64 a0.F.a3.N, ls a0.F.a3.Text]]) (by kernel_rfl) (args_clean (by kernel_rfl) args_nil) (F27_ok n a0.F.a3 r9 hr) (by kernel_rfl))) (fun r9 => ?_)
    refine SimI.run 2 [(54, .one (lb (!(r9)))), (53, .one (lb (!(r9))))] [] (by kernel_rfl) ?_
    refine SimI.split 54 (!(r9)) (by kernel_rfl) ?_ ?_
    · refine SimI.run 17 [(71, .one (lb true)), (70, .tup []), (69, .tup []), (68, .tup []), (67, .tup []), (66, .tup []), (65, .tup []), (64, .tup []), (63, .tup []), (62, .tup []), (61, .tup []), (60, .tup []), (59, .tup []), (58, .tup []), (57, .tup []), (56, .tup []), (55, .tup [])] [] (by kernel_rfl) ?_
      refine SimI.done (by kernel_rfl) ?_
      refine SimE.thenN ?_
      refine Sim.condT (by kernel_rfl) ?_
      refine Sim.seq ?_
      refine Sim.region0 ?_
      refine SimI.run 1 [(2, .one (lb false))] [] (by kernel_rfl) ?_
      refine SimI.done (by kernel_rfl) ?_
      refine SimE.thenN ?_
      refine Sim.ret ?_
      refine SimE.blockR ?_
      refine SimE.thenR ?_
      refine SimE.loopR ?_
      refine SimE.blockR ?_
      refine SimE.thenR ?_
      exact SimE.fin (by kernel_rfl)
    · refine SimI.run 9 [(63, .one (lb ((bitsI .and .u8 (shrI .u8 a0.Mask 4) 1) == 0))), (62, .one (lb ((bitsI .and .u8 (shrI .u8 a0.Mask 4) 1) == 0))), (61, .one (li .u8 (bitsI .and .u8 (shrI .u8 a0.Mask 4) 1))), (60, .one (li .u8 (shrI .u8 a0.Mask 4))), (59, .one (li .u64 4)), (58, .one (li .i64 4)), (57, .one (li .i64 3)), (56, .one (li .u8 a0.Mask)), (55, .one (.ptr 1 1))] [] (by kernel_rfl) ?_
      refine SimI.split 63 ((bitsI .and .u8 (shrI .u8 a0.Mask 4) 1) == 0) (by kernel_rfl) ?_ ?_
      · refine SimI.run 5 [(68, .agg [li .i64 0, ls ByteArray.empty]), (67, .agg [li .i64 a0.F.a3.N, ls a0.F.a3.Text]), (66, .one (.ptr 1 10)), (65, .one (.ptr 1 4)), (64, .one (li .i64 3))] [] (by kernel_rfl) ?_
        refine SimI.step { dst := some 69, op := POp.prim (Prim.bin BinOp.neq 25 false false) [Operand.tmp 67, Operand.tmp 68], guard := some (63, true), hints := [] } [(69, .one (lb (!(Field.eqb a0.F.a3 (Field.mk 0 ByteArray.empty)))))] [] (by kernel_rfl) (pOp_eff (by kernel_rfl) (by kernel_rfl) (eff_prim (by kernel_rfl) (Field_eqn a0.F.a3 (Field.mk 0 ByteArray.empty) _ _))) ?_
        refine SimI.run 2 [(71, .one (lb (!(Field.eqb a0.F.a3 (Field.mk 0 ByteArray.empty))))), (70, .one (lb (!(Field.eqb a0.F.a3 (Field.mk 0 ByteArray.empty)))))] [] (by kernel_rfl) ?_
        refine SimI.done (by kernel_rfl) ?_
        refine SimE.thenN ?_
        refine Sim.cond (!(Field.eqb a0.F.a3 (Field.mk 0 ByteArray.empty))) (by kernel_rfl) ?_ ?_
        · refine Sim.seq ?_
          refine Sim.region0 ?_
          refine SimI.run 1 [(2, .one (lb false))] [] (by kernel_rfl) ?_
          refine SimI.done (by kernel_rfl) ?_
          refine SimE.thenN ?_
          refine Sim.ret ?_
          refine SimE.blockR ?_
          refine SimE.thenR ?_
          refine SimE.loopR ?_
          refine SimE.blockR ?_
          refine SimE.thenR ?_
          exact SimE.fin (by kernel_rfl)
        · refine Sim.skip ?_
          refine SimE.blockN ?_
          refine SimE.thenN ?_
          refine Sim.region0 ?_
          refine SimI.run 3 [(3, .one (li .i64 4)), (47, .one (li .i64 4)), (46, .one (li .i64 3))] [] (by kernel_rfl) ?_
          refine SimI.done (by kernel_rfl) ?_
          refine SimE.loopN ?_
          refine SimL.pre (ts := [1, 3]) (os := [1]) [(1, .one (.ptr 1 0)), (3, .one (li .i64 4))] ((1, some (.cells [li .i64 a0.ID, li .u8 a0.Mask, li .i64 a0.At.X, li .i64 a0.At.Y, li .i64 a0.F.a0.N, ls a0.F.a0.Text, li .i64 a0.F.a1.N, ls a0.F.a1.Text, li .i64 a0.F.a2.N, ls a0.F.a2.Text, li .i64 a0.F.a3.N, ls a0.F.a3.Text])) :: []) (by kernel_rfl) (by kernel_rfl) (by kernel_rfl) ?_
          exact F21_u10_ok n a0
      · refine SimI.run 8 [(71, .one (lb false)), (70, .one (lb false)), (69, .tup []), (68, .tup []), (67, .tup []), (66, .tup []), (65, .tup []), (64, .tup [])] [] (by kernel_rfl) ?_
        refine SimI.done (by kernel_rfl) ?_
        refine SimE.thenN ?_
        refine Sim.condF (by kernel_rfl) ?_
        refine Sim.skip ?_
        refine SimE.blockN ?_
        refine SimE.thenN ?_
        refine Sim.region0 ?_
        refine SimI.run 3 [(3, .one (li .i64 4)), (47, .one (li .i64 4)), (46, .one (li .i64 3))] [] (by kernel_rfl) ?_
        refine SimI.done (by kernel_rfl) ?_
        refine SimE.loopN ?_
        refine SimL.pre (ts := [1, 3]) (os := [1]) [(1, .one (.ptr 1 0)), (3, .one (li .i64 4))] ((1, some (.cells [li .i64 a0.ID, li .u8 a0.Mask, li .i64 a0.At.X, li .i64 a0.At.Y, li .i64 a0.F.a0.N, ls a0.F.a0.Text, li .i64 a0.F.a1.N, ls a0.F.a1.Text, li .i64 a0.F.a2.N, ls a0.F.a2.Text, li .i64 a0.F.a3.N, ls a0.F.a3.Text])) :: []) (by kernel_rfl) (by kernel_rfl) (by kernel_rfl) ?_
        exact F21_u10_ok n a0

def F21_u6 (n : Nat) (a0 : Delta) : Option Bool :=
    (F27 n a0.F.a2).bind fun (r7 : Bool) =>
    if !(r7) then
      some false
    else
      if (bitsI .and .u8 (shrI .u8 a0.Mask 3) 1) == 0 then
        if !(Field.eqb a0.F.a2 (Field.mk 0 ByteArray.empty)) then
          some false
        else
          F21_u8 n a0
      else
        F21_u8 n a0
theorem F21_u6_ok (n : Nat) (a0 : Delta) : SimL Try.prog D (n + 8) (n + 6) pc21_c32 [(1, .one (.ptr 1 0)), (3, .one (li .i64 2))] ((1, some (.cells [li .i64 a0.ID, li .u8 a0.Mask, li .i64 a0.At.X, li .i64 a0.At.Y, li .i64 a0.F.a0.N, ls a0.F.a0.Text, li .i64 a0.F.a1.N, ls a0.F.a1.Text, li .i64 a0.F.a2.N, ls a0.F.a2.Text, li .i64 a0.F.a3.N, ls a0.F.a3.Text])) :: []) (F21_u6 n a0) (QB 0 (QT Try.prog D (n + 8) pc21_c38 (QF pc21_r 0 F21_e))) := by
    unfold F21_u6
    refine SimL.succ ?_
    refine Sim.seq ?_
    refine Sim.seq ?_
    refine Sim.region [(1, .one (.ptr 1 0)), (3, .one (li .i64 2))] ((1, some (.cells [li .i64 a0.ID, li .u8 a0.Mask, li .i64 a0.At.X, li .i64 a0.At.Y, li .i64 a0.F.a0.N, ls a0.F.a0.Text, li .i64 a0.F.a1.N, ls a0.F.a1.Text, li .i64 a0.F.a2.N, ls a0.F.a2.Text, li .i64 a0.F.a3.N, ls a0.F.a3.Text])) :: []) (by kernel_rfl) ?_
    refine SimI.run 2 [(45, .one (lb true)), (44, .one (li .i64 2))] [] (by kernel_rfl) ?_
    refine SimI.done (by kernel_rfl) ?_
    refine SimE.thenN ?_
    refine Sim.condT (by kernel_rfl) ?_
    refine Sim.skip ?_
    refine SimE.thenN ?_
    refine Sim.seq ?_
    refine Sim.block ?_
    refine Sim.seq ?_
    refine Sim.region0 ?_
    refine SimI.run 4 [(51, .agg [li .i64 a0.F.a2.N, ls a0.F.a2.Text]), (50, .one (.ptr 1 8)), (49, .one (.ptr 1 4)), (48, .one (li .i64 2))] [] (by kernel_rfl) ?_
    refine SimI.bind (og := F27 n a0.F.a2) { dst := some 52, op := POp.call true [[]] 27 [Operand.tmp 51], guard := none, hints := [] } (fun r7 => [(52, .one (lb r7))]) (fun r7 => []) (by kernel_rfl) (fun r7 hr => pOp_eff (by kernel_rfl) (by kernel_rfl) (eff_call (ARGS := [.agg [li .i64 a0.F.a2.N, ls a0.F.a2.Text]]) (by kernel_rfl) (args_clean (by kernel_rfl) args_nil) (F27_ok n a0.F.a2 r7 hr) (by kernel_rfl))) (fun r7 => ?_)
    refine SimI.run 2 [(54, .one (lb (!(r7)))), (53, .one (lb (!(r7))))] [] (by kernel_rfl) ?_
    refine SimI.split 54 (!(r7)) (by kernel_rfl) ?_ ?_
    · refine SimI.run 17 [(71, .one (lb true)), (70, .tup []), (69, .tup []), (68, .tup []), (67, .tup []), (66, .tup []), (65, .tup []), (64, .tup []), (63, .tup []), (62, .tup []), (61, .tup []), (60, .tup []), (59, .tup []), (58, .tup []), (57, .tup []), (56, .tup []), (55, .tup [])] [] (by kernel_rfl) ?_
      refine SimI.done (by kernel_rfl) ?_
      refine SimE.thenN ?_
      refine Sim.condT (by kernel_rfl) ?_
      refine Sim.seq ?_
      refine Sim.region0 ?_
      refine SimI.run 1 [(2, .one (lb false))] [] (by kernel_rfl) ?_
      refine SimI.done (by kernel_rfl) ?_
      refine SimE.thenN ?_
      refine Sim.ret ?_
      refine SimE.blockR ?_
      refine SimE.thenR ?_
      refine SimE.loopR ?_
      refine SimE.blockR ?_
      refine SimE.thenR ?_
      exact SimE.fin (by kernel_rfl)
    · refine SimI.run 9 [(63, .one (lb ((bitsI .and .u8 (shrI .u8 a0.Mask 3) 1) == 0))), (62, .one (lb ((bitsI .and .u8 (shrI .u8 a0.Mask 3) 1) == 0))), (61, .one (li .u8 (bitsI .and .u8 (shrI .u8 a0.Mask 3) 1))), (60, .one (li .u8 (shrI .u8 a0.Mask 3))), (59, .one (li .u64 3)), (58, .one (li .i64 3)), (57, .one (li .i64 2)), (56, .one (li .u8 a0.Mask)), (55, .one (.ptr 1 1))] [] (by kernel_rfl) ?_
      refine SimI.split 63 ((bitsI .and .u8 (shrI .u8 a0.Mask 3) 1) == 0) (by kernel_rfl) ?_ ?_
      · refine SimI.run 5 [(68, .agg [li .i64 0, ls ByteArray.empty]), (67, .agg [li .i64 a0.F.a2.N, ls a0.F.a2.Text]), (66, .one (.ptr 1 8)), (65, .one (.ptr 1 4)), (64, .one (li .i64 2))] [] (by kernel_rfl) ?_
        refine SimI.step { dst := some 69, op := POp.prim (Prim.bin BinOp.neq 25 false false) [Operand.tmp 67, Operand.tmp 68], guard := some (63, true), hints := [] } [(69, .one (lb (!(Field.eqb a0.F.a2 (Field.mk 0 ByteArray.empty)))))] [] (by kernel_rfl) (pOp_eff (by kernel_rfl) (by kernel_rfl) (eff_prim (by kernel_rfl) (Field_eqn a0.F.a2 (Field.mk 0 ByteArray.empty) _ _))) ?_
        refine SimI.run 2 [(71, .one (lb (!(Field.eqb a0.F.a2 (Field.mk 0 ByteArray.empty))))), (70, .one (lb (!(Field.eqb a0.F.a2 (Field.mk 0 ByteArray.empty)))))] [] (by kernel_rfl) ?_
        refine SimI.done (by kernel_rfl) ?_
        refine SimE.thenN ?_
        refine Sim.cond (!(Field.eqb a0.F.a2 (Field.mk 0 ByteArray.empty))) (by kernel_rfl) ?_ ?_
        · refine Sim.seq ?_
          refine Sim.region0 ?_
          refine SimI.run 1 [(2, .one (lb false))] [] (by kernel_rfl) ?_
          refine SimI.done (by kernel_rfl) ?_
          refine SimE.thenN ?_
          refine Sim.ret ?_
          refine SimE.blockR ?_
          refine SimE.thenR ?_
          refine SimE.loopR ?_
          refine SimE.blockR ?_
          refine SimE.thenR ?_
          exact SimE.fin (by kernel_rfl)
        · refine Sim.skip ?_
          refine SimE.blockN ?_
          refine SimE.thenN ?_
          refine Sim.region0 ?_
          refine SimI.run 3 [(3, .one (li .i64 3)), (47, .one (li .i64 3)), (46, .one (li .i64 2))] [] (by kernel_rfl) ?_
          refine SimI.done (by kernel_rfl) ?_
          refine SimE.loopN ?_
          refine SimL.pre (ts := [1, 3]) (os := [1]) [(1, .one (.ptr 1 0)), (3, .one (li .i64 3))] ((1, some (.cells [li .i64 a0.ID, li .u8 a0.Mask, li .i64 a0.At.X, li .i64 a0.At.Y, li .i64 a0.F.a0.N, ls a0.F.a0.Text, li .i64 a0.F.a1.N, ls a0.F.a1.Text, li .i64 a0.F.a2.N, ls a0.F.a2.Text, li .i64 a0.F.a3.N, ls a0.F.a3.Text])) :: []) (by kernel_rfl) (by kernel_rfl) (by kernel_rfl) ?_
          exact F21_u8_ok n a0
      · refine SimI.run 8 [(71, .one (lb false)), (70, .one (lb false)), (69, .tup []), (68, .tup []), (67, .tup []), (66, .tup []), (65, .tup []), (64, .tup [])] [] (by kernel_rfl) ?_
        refine SimI.done (by kernel_rfl) ?_
        refine SimE.thenN ?_
        refine Sim.condF (by kernel_rfl) ?_
        refine Sim.skip ?_
        refine SimE.blockN ?_
        refine SimE.thenN ?_
        refine Sim.region0 ?_
        refine SimI.run 3 [(3, .one (li .i64 3)), (47, .one (li .i64 3)), (46, .one (li .i64 2))] [] (by kernel_rfl) ?_
        refine SimI.done (by kernel_rfl) ?_
        refine SimE.loopN ?_
        refine SimL.pre (ts := [1, 3]) (os := [1]) [(1, .one (.ptr 1 0)), (3, .one (li .i64 3))] ((1, some (.cells [li .i64 a0.ID, li .u8 a0.Mask, li .i64 a0.At.X, li .i64 a0.At.Y, li .i64 a0.F.a0.N, ls a0.F.a0.Text, li .i64 a0.F.a1.N, ls a0.F.a1.Text, li .i64 a0.F.a2.N, ls a0.F.a2.Text, li .i64 a0.F.a3.N, ls a0.F.a3.Text])) :: []) (by kernel_rfl) (by kernel_rfl) (by kernel_rfl) ?_
        exact F21_u8_ok n a0

def F21_u4 (n : Nat) (a0 : Delta) : Option Bool :=
    (F27 n a0.F.a1).bind fun (r5 : Bool) =>
    if !(r5) then
      some false
    else
      if (bitsI .and .u8 (shrI .u8 a0.Mask 2) 1) == 0 then
        if !(Field.eqb a0.F.a1 (Field.mk 0 ByteArray.empty)) then
          some false
        else
          F21_u6 n a0
      else
        F21_u6 n a0
theorem F21_u4_ok (n : Nat) (a0 : Delta) : SimL Try.prog D (n + 8) (n + 7) pc21_c32 [(1, .one (.ptr 1 0)), (3, .one (li .i64 1))] ((1, some (.cells [li .i64 a0.ID, li .u8 a0.Mask, li .i64 a0.At.X, li .i64 a0.At.Y, li .i64 a0.F.a0.N, ls a0.F.a0.Text, li .i64 a0.F.a1.N, ls a0.F.a1.Text, li .i64 a0.F.a2.N, ls a0.F.a2.Text, li .i64 a0.F.a3.N, ls a0.F.a3.Text])) :: []) (F21_u4 n a0) (QB 0 (QT Try.prog D (n + 8) pc21_c38 (QF pc21_r 0 F21_e))) := by
    unfold F21_u4
    refine SimL.succ ?_
    refine Sim.seq ?_
    refine Sim.seq ?_
    refine Sim.region [(1, .one (.ptr 1 0)), (3, .one (li .i64 1))] ((1, some (.cells [li .i64 a0.ID, li .u8 a0.Mask, li .i64 a0.At.X, li .i64 a0.At.Y, li .i64 a0.F.a0.N, ls a0.F.a0.Text, li .i64 a0.F.a1.N, ls a0.F.a1.Text, li .i64 a0.F.a2.N, ls a0.F.a2.Text, li .i64 a0.F.a3.N, ls a0.F.a3.Text])) :: []) (by kernel_rfl) ?_
    refine SimI.run 2 [(45, .one (lb true)), (44, .one (li .i64 1))] [] (by kernel_rfl) ?_
    refine SimI.done (by kernel_rfl) ?_
    refine SimE.thenN ?_
    refine Sim.condT (by kernel_rfl) ?_
    refine Sim.skip ?_
    refine SimE.thenN ?_
    refine Sim.seq ?_
    refine Sim.block ?_
    refine Sim.seq ?_
    refine Sim.region0 ?_
    refine SimI.run 4 [(51, .agg [li .i64 a0.F.a1.N, ls a0.F.a1.Text]), (50, .one (.ptr 1 6)), (49, .one (.ptr 1 4)), (48, .one (li .i64 1))] [] (by kernel_rfl) ?_
    refine SimI.bind (og := F27 n a0.F.a1) { dst := some 52, op := POp.call true [[]] 27 [Operand.tmp 51], guard := none, hints := [] } (fun r5 => [(52, .one (lb r5))]) (fun r5 => []) (by kernel_rfl) (fun r5 hr => pOp_eff (by kernel_rfl) (by kernel_rfl) (eff_call (ARGS := [.agg [li .i64 a0.F.a1.N, ls a0.F.a1.Text]]) (by kernel_rfl) (args_clean (by kernel_rfl) args_nil) (F27_ok n a0.F.a1 r5 hr) (by kernel_rfl))) (fun r5 => ?_)
    refine SimI.run 2 [(54, .one (lb (!(r5)))), (53, .one (lb (!(r5))))] [] (by kernel_rfl) ?_
    refine SimI.split 54 (!(r5)) (by kernel_rfl) ?_ ?_
    · refine SimI.run 17 [(71, .one (lb true)), (70, .tup []), (69, .tup []), (68, .tup []), (67, .tup []), (66, .tup []), (65, .tup []), (64, .tup []), (63, .tup []), (62, .tup []), (61, .tup []), (60, .tup []), (59, .tup []), (58, .tup []), (57, .tup []), (56, .tup []), (55, .tup [])] [] (by kernel_rfl) ?_
      refine SimI.done (by kernel_rfl) ?_
      refine SimE.thenN ?_
      refine Sim.condT (by kernel_rfl) ?_
      refine Sim.seq ?_
      refine Sim.region0 ?_
      refine SimI.run 1 [(2, .one (lb false))] [] (by kernel_rfl) ?_
      refine SimI.done (by kernel_rfl) ?_
      refine SimE.thenN ?_
      refine Sim.ret ?_
      refine SimE.blockR ?_
      refine SimE.thenR ?_
      refine SimE.loopR ?_
      refine SimE.blockR ?_
      refine SimE.thenR ?_
      exact SimE.fin (by kernel_rfl)
    · refine SimI.run 9 [(63, .one (lb ((bitsI .and .u8 (shrI .u8 a0.Mask 2) 1) == 0))), (62, .one (lb ((bitsI .and .u8 (shrI .u8 a0.Mask 2) 1) == 0))), (61, .one (li .u8 (bitsI .and .u8 (shrI .u8 a0.Mask 2) 1))), (60, .one (li .u8 (shrI .u8 a0.Mask 2))), (59, .one (li .u64 2)), (58, .one (li .i64 2)), (57, .one (li .i64 1)), (56, .one (li .u8 a0.Mask)), (55, .one (.ptr 1 1))] [] (by kernel_rfl) ?_
      refine SimI.split 63 ((bitsI .and .u8 (shrI .u8 a0.Mask 2) 1) == 0) (by kernel_rfl) ?_ ?_
      · refine SimI.run 5 [(68, .agg [li .i64 0, ls ByteArray.empty]), (67, .agg [li .i64 a0.F.a1.N, ls a0.F.a1.Text]), (66, .one (.ptr 1 6)), (65, .one (.ptr 1 4)), (64, .one (li .i64 1))] [] (by kernel_rfl) ?_
        refine SimI.step { dst := some 69, op := POp.prim (Prim.bin BinOp.neq 25 false false) [Operand.tmp 67, Operand.tmp 68], guard := some (63, true), hints := [] } [(69, .one (lb (!(Field.eqb a0.F.a1 (Field.mk 0 ByteArray.empty)))))] [] (by kernel_rfl) (pOp_eff (by kernel_rfl) (by kernel_rfl) (eff_prim (by kernel_rfl) (Field_eqn a0.F.a1 (Field.mk 0 ByteArray.empty) _ _))) ?_
        refine SimI.run 2 [(71, .one (lb (!(Field.eqb a0.F.a1 (Field.mk 0 ByteArray.empty))))), (70, .one (lb (!(Field.eqb a0.F.a1 (Field.mk 0 ByteArray.empty)))))] [] (by kernel_rfl) ?_
        refine SimI.done (by kernel_rfl) ?_
        refine SimE.thenN ?_
        refine Sim.cond (!(Field.eqb a0.F.a1 (Field.mk 0 ByteArray.empty))) (by kernel_rfl) ?_ ?_
        · refine Sim.seq ?_
          refine Sim.region0 ?_
          refine SimI.run 1 [(2, .one (lb false))] [] (by kernel_rfl) ?_
          refine SimI.done (by kernel_rfl) ?_
          refine SimE.thenN ?_
          refine Sim.ret ?_
          refine SimE.blockR ?_
          refine SimE.thenR ?_
          refine SimE.loopR ?_
          refine SimE.blockR ?_
          refine SimE.thenR ?_
          exact SimE.fin (by kernel_rfl)
        · refine Sim.skip ?_
          refine SimE.blockN ?_
          refine SimE.thenN ?_
          refine Sim.region0 ?_
          refine SimI.run 3 [(3, .one (li .i64 2)), (47, .one (li .i64 2)), (46, .one (li .i64 1))] [] (by kernel_rfl) ?_
          refine SimI.done (by kernel_rfl) ?_
          refine SimE.loopN ?_
          refine SimL.pre (ts := [1, 3]) (os := [1]) [(1, .one (.ptr 1 0)), (3, .one (li .i64 2))] ((1, some (.cells [li .i64 a0.ID, li .u8 a0.Mask, li .i64 a0.At.X, li .i64 a0.At.Y, li .i64 a0.F.a0.N, ls a0.F.a0.Text, li .i64 a0.F.a1.N, ls a0.F.a1.Text, li .i64 a0.F.a2.N, ls a0.F.a2.Text, li .i64 a0.F.a3.N, ls a0.F.a3.Text])) :: []) (by kernel_rfl) (by kernel_rfl) (by kernel_rfl) ?_
          exact F21_u6_ok n a0
      · refine SimI.run 8 [(71, .one (lb false)), (70, .one (lb false)), (69, .tup []), (68, .tup []), (67, .tup []), (66, .tup []), (65, .tup []), (64, .tup [])] [] (by kernel_rfl) ?_
        refine SimI.done (by kernel_rfl) ?_
        refine SimE.thenN ?_
        refine Sim.condF (by kernel_rfl) ?_
        refine Sim.skip ?_
        refine SimE.blockN ?_
        refine SimE.thenN ?_
        refine Sim.region0 ?_
        refine SimI.run 3 [(3, .one (li .i64 2)), (47, .one (li .i64 2)), (46, .one (li .i64 1))] [] (by kernel_rfl) ?_
        refine SimI.done (by kernel_rfl) ?_
        refine SimE.loopN ?_
        refine SimL.pre (ts := [1, 3]) (os := [1]) [(1, .one (.ptr 1 0)), (3, .one (li .i64 2))] ((1, some (.cells [li .i64 a0.ID, li .u8 a0.Mask, li .i64 a0.At.X, li .i64 a0.At.Y, li .i64 a0.F.a0.N, ls a0.F.a0.Text, li .i64 a0.F.a1.N, ls a0.F.a1.Text, li .i64 a0.F.a2.N, ls a0.F.a2.Text, li .i64 a0.F.a3.N, ls a0.F.a3.Text])) :: []) (by kernel_rfl) (by kernel_rfl) (by kernel_rfl) ?_
        exact F21_u6_ok n a0

def F21_j2 (n : Nat) (a0 : Delta) : Option Bool :=
    (F27 n a0.F.a0).bind fun (r3 : Bool) =>
    if !(r3) then
      some false
    else
      if (bitsI .and .u8 (shrI .u8 a0.Mask 1) 1) == 0 then
        if !(Field.eqb a0.F.a0 (Field.mk 0 ByteArray.empty)) then
          some false
        else
          F21_u4 n a0
      else
        F21_u4 n a0
theorem F21_j2_ok (n : Nat) (a0 : Delta) : Sim Try.prog D (n + 8) pc21_c39 [(1, .one (.ptr 1 0))] ((1, some (.cells [li .i64 a0.ID, li .u8 a0.Mask, li .i64 a0.At.X, li .i64 a0.At.Y, li .i64 a0.F.a0.N, ls a0.F.a0.Text, li .i64 a0.F.a1.N, ls a0.F.a1.Text, li .i64 a0.F.a2.N, ls a0.F.a2.Text, li .i64 a0.F.a3.N, ls a0.F.a3.Text])) :: []) (F21_j2 n a0) (QF pc21_r 0 F21_e) := by
    unfold F21_j2
    refine Sim.seq ?_
    refine Sim.seq ?_
    refine Sim.region [(1, .one (.ptr 1 0))] ((1, some (.cells [li .i64 a0.ID, li .u8 a0.Mask, li .i64 a0.At.X, li .i64 a0.At.Y, li .i64 a0.F.a0.N, ls a0.F.a0.Text, li .i64 a0.F.a1.N, ls a0.F.a1.Text, li .i64 a0.F.a2.N, ls a0.F.a2.Text, li .i64 a0.F.a3.N, ls a0.F.a3.Text])) :: []) (by kernel_rfl) ?_
    refine SimI.run 1 [(3, .one (li .i64 0))] [] (by kernel_rfl) ?_
    refine SimI.done (by kernel_rfl) ?_
    refine SimE.thenN ?_
    refine Sim.block ?_
    refine Sim.loop ?_
    refine SimL.succ ?_
    refine Sim.seq ?_
    refine Sim.seq ?_
    refine Sim.region [(1, .one (.ptr 1 0)), (3, .one (li .i64 0))] ((1, some (.cells [li .i64 a0.ID, li .u8 a0.Mask, li .i64 a0.At.X, li .i64 a0.At.Y, li .i64 a0.F.a0.N, ls a0.F.a0.Text, li .i64 a0.F.a1.N, ls a0.F.a1.Text, li .i64 a0.F.a2.N, ls a0.F.a2.Text, li .i64 a0.F.a3.N, ls a0.F.a3.Text])) :: []) (by kernel_rfl) ?_
    refine SimI.run 2 [(45, .one (lb true)), (44, .one (li .i64 0))] [] (by kernel_rfl) ?_
    refine SimI.done (by kernel_rfl) ?_
    refine SimE.thenN ?_
    refine Sim.condT (by kernel_rfl) ?_
    refine Sim.skip ?_
    refine SimE.thenN ?_
    refine Sim.seq ?_
    refine Sim.block ?_
    refine Sim.seq ?_
    refine Sim.region0 ?_
    refine SimI.run 4 [(51, .agg [li .i64 a0.F.a0.N, ls a0.F.a0.Text]), (50, .one (.ptr 1 4)), (49, .one (.ptr 1 4)), (48, .one (li .i64 0))] [] (by kernel_rfl) ?_
    refine SimI.bind (og := F27 n a0.F.a0) { dst := some 52, op := POp.call true [[]] 27 [Operand.tmp 51], guard := none, hints := [] } (fun r3 => [(52, .one (lb r3))]) (fun r3 => []) (by kernel_rfl) (fun r3 hr => pOp_eff (by kernel_rfl) (by kernel_rfl) (eff_call (ARGS := [.agg [li .i64 a0.F.a0.N, ls a0.F.a0.Text]]) (by kernel_rfl) (args_clean (by kernel_rfl) args_nil) (F27_ok n a0.F.a0 r3 hr) (by kernel_rfl))) (fun r3 => ?_)
    refine SimI.run 2 [(54, .one (lb (!(r3)))), (53, .one (lb (!(r3))))] [] (by kernel_rfl) ?_
    refine SimI.split 54 (!(r3)) (by kernel_rfl) ?_ ?_
    · refine SimI.run 17 [(71, .one (lb true)), (70, .tup []), (69, .tup []), (68, .tup []), (67, .tup []), (66, .tup []), (65, .tup []), (64, .tup []), (63, .tup []), (62, .tup []), (61, .tup []), (60, .tup []), (59, .tup []), (58, .tup []), (57, .tup []), (56, .tup []), (55, .tup [])] [] (by kernel_rfl) ?_
      refine SimI.done (by kernel_rfl) ?_
      refine SimE.thenN ?_
      refine Sim.condT (by kernel_rfl) ?_
      refine Sim.seq ?_
      refine Sim.region0 ?_
      refine SimI.run 1 [(2, .one (lb false))] [] (by kernel_rfl) ?_
      refine SimI.done (by kernel_rfl) ?_
      refine SimE.thenN ?_
      refine Sim.ret ?_
      refine SimE.blockR ?_
      refine SimE.thenR ?_
      refine SimE.loopR ?_
      refine SimE.blockR ?_
      refine SimE.thenR ?_
      exact SimE.fin (by kernel_rfl)
    · refine SimI.run 9 [(63, .one (lb ((bitsI .and .u8 (shrI .u8 a0.Mask 1) 1) == 0))), (62, .one (lb ((bitsI .and .u8 (shrI .u8 a0.Mask 1) 1) == 0))), (61, .one (li .u8 (bitsI .and .u8 (shrI .u8 a0.Mask 1) 1))), (60, .one (li .u8 (shrI .u8 a0.Mask 1))), (59, .one (li .u64 1)), (58, .one (li .i64 1)), (57, .one (li .i64 0)), (56, .one (li .u8 a0.Mask)), (55, .one (.ptr 1 1))] [] (by kernel_rfl) ?_
      refine SimI.split 63 ((bitsI .and .u8 (shrI .u8 a0.Mask 1) 1) == 0) (by kernel_rfl) ?_ ?_
      · refine SimI.run 5 [(68, .agg [li .i64 0, ls ByteArray.empty]), (67, .agg [li .i64 a0.F.a0.N, ls a0.F.a0.Text]), (66, .one (.ptr 1 4)), (65, .one (.ptr 1 4)), (64, .one (li .i64 0))] [] (by kernel_rfl) ?_
        refine SimI.step { dst := some 69, op := POp.prim (Prim.bin BinOp.neq 25 false false) [Operand.tmp 67, Operand.tmp 68], guard := some (63, true), hints := [] } [(69, .one (lb (!(Field.eqb a0.F.a0 (Field.mk 0 ByteArray.empty)))))] [] (by kernel_rfl) (pOp_eff (by kernel_rfl) (by kernel_rfl) (eff_prim (by kernel_rfl) (Field_eqn a0.F.a0 (Field.mk 0 ByteArray.empty) _ _))) ?_
        refine SimI.run 2 [(71, .one (lb (!(Field.eqb a0.F.a0 (Field.mk 0 ByteArray.empty))))), (70, .one (lb (!(Field.eqb a0.F.a0 (Field.mk 0 ByteArray.empty)))))] [] (by kernel_rfl) ?_
        refine SimI.done (by kernel_rfl) ?_
        refine SimE.thenN ?_
        refine Sim.cond (!(Field.eqb a0.F.a0 (Field.mk 0 ByteArray.empty))) (by kernel_rfl) ?_ ?_
        · refine Sim.seq ?_
          refine Sim.region0 ?_
          refine SimI.run 1 [(2, .one (lb false))] [] (by kernel_rfl) ?_
          refine SimI.done (by kernel_rfl) ?_
          refine SimE.thenN ?_
          refine Sim.ret ?_
          refine SimE.blockR ?_
          refine SimE.thenR ?_
          refine SimE.loopR ?_
          refine SimE.blockR ?_
          refine SimE.thenR ?_
          exact SimE.fin (by kernel_rfl)
        · refine Sim.skip ?_
          refine SimE.blockN ?_
          refine SimE.thenN ?_
          refine Sim.region0 ?_
          refine SimI.run 3 [(3, .one (li .i64 1)), (47, .one (li .i64 1)), (46, .one (li .i64 0))] [] (by kernel_rfl) ?_
          refine SimI.done (by kernel_rfl) ?_
          refine SimE.loopN ?_
          refine SimL.pre (ts := [1, 3]) (os := [1]) [(1, .one (.ptr 1 0)), (3, .one (li .i64 1))] ((1, some (.cells [li .i64 a0.ID, li .u8 a0.Mask, li .i64 a0.At.X, li .i64 a0.At.Y, li .i64 a0.F.a0.N, ls a0.F.a0.Text, li .i64 a0.F.a1.N, ls a0.F.a1.Text, li .i64 a0.F.a2.N, ls a0.F.a2.Text, li .i64 a0.F.a3.N, ls a0.F.a3.Text])) :: []) (by kernel_rfl) (by kernel_rfl) (by kernel_rfl) ?_
          exact F21_u4_ok n a0
      · refine SimI.run 8 [(71, .one (lb false)), (70, .one (lb false)), (69, .tup []), (68, .tup []), (67, .tup []), (66, .tup []), (65, .tup []), (64, .tup [])] [] (by kernel_rfl) ?_
        refine SimI.done (by kernel_rfl) ?_
        refine SimE.thenN ?_
        refine Sim.condF (by kernel_rfl) ?_
        refine Sim.skip ?_
        refine SimE.blockN ?_
        refine SimE.thenN ?_
        refine Sim.region0 ?_
        refine SimI.run 3 [(3, .one (li .i64 1)), (47, .one (li .i64 1)), (46, .one (li .i64 0))] [] (by kernel_rfl) ?_
        refine SimI.done (by kernel_rfl) ?_
        refine SimE.loopN ?_
        refine SimL.pre (ts := [1, 3]) (os := [1]) [(1, .one (.ptr 1 0)), (3, .one (li .i64 1))] ((1, some (.cells [li .i64 a0.ID, li .u8 a0.Mask, li .i64 a0.At.X, li .i64 a0.At.Y, li .i64 a0.F.a0.N, ls a0.F.a0.Text, li .i64 a0.F.a1.N, ls a0.F.a1.Text, li .i64 a0.F.a2.N, ls a0.F.a2.Text, li .i64 a0.F.a3.N, ls a0.F.a3.Text])) :: []) (by kernel_rfl) (by kernel_rfl) (by kernel_rfl) ?_
        exact F21_u4_ok n a0

def F21 (n : Nat) (a0 : Delta) : Option Bool :=
  if decide (a0.ID < 0) then
    some false
  else
    if decide ((1000000 : Int) < a0.ID) then
      some false
    else
      if decide (a0.Mask < 1) then
        some false
      else
        if decide ((31 : Int) < a0.Mask) then
          some false
        else
          if (bitsI .and .u8 a0.Mask 1) != 0 then
            (F46 n a0.At).bind fun (r1 : Bool) =>
            if !(r1) then
              some false
            else
              if (bitsI .and .u8 a0.Mask 1) == 0 then
                if !(Point.eqb a0.At (Point.mk 0 0)) then
                  some false
                else
                  F21_j2 n a0
              else
                F21_j2 n a0
          else
            if (bitsI .and .u8 a0.Mask 1) == 0 then
              if !(Point.eqb a0.At (Point.mk 0 0)) then
                some false
              else
                F21_j2 n a0
            else
              F21_j2 n a0
theorem F21_ok (n : Nat) (a0 : Delta) : ∀ r, F21 n a0 = some r → D 21 [.agg [li .i64 a0.ID, li .u8 a0.Mask, li .i64 a0.At.X, li .i64 a0.At.Y, li .i64 a0.F.a0.N, ls a0.F.a0.Text, li .i64 a0.F.a1.N, ls a0.F.a1.Text, li .i64 a0.F.a2.N, ls a0.F.a2.Text, li .i64 a0.F.a3.N, ls a0.F.a3.Text]] [] = some (F21_e r) := by
  refine fn_to (D := D) (n := n + 8) (nt := 72) (rs := pc21_r) (c := pc21_c42) (L := [(0, .agg [li .i64 a0.ID, li .u8 a0.Mask, li .i64 a0.At.X, li .i64 a0.At.Y, li .i64 a0.F.a0.N, ls a0.F.a0.Text, li .i64 a0.F.a1.N, ls a0.F.a1.Text, li .i64 a0.F.a2.N, ls a0.F.a2.Text, li .i64 a0.F.a3.N, ls a0.F.a3.Text])]) (M := []) (k := 0) rfl rfl rfl rfl rfl rfl ?_
  unfold F21
  refine Sim.seq ?_
  refine Sim.region0 ?_
  refine SimI.run 2 [(2, .one (lb false)), (1, .one (.ptr 1 0))] [(1, some (.cells [li .i64 a0.ID, li .u8 a0.Mask, li .i64 a0.At.X, li .i64 a0.At.Y, li .i64 a0.F.a0.N, ls a0.F.a0.Text, li .i64 a0.F.a1.N, ls a0.F.a1.Text, li .i64 a0.F.a2.N, ls a0.F.a2.Text, li .i64 a0.F.a3.N, ls a0.F.a3.Text]))] (by kernel_rfl) ?_
  refine SimI.done (by kernel_rfl) ?_
  refine SimE.thenN ?_
  refine Sim.seq ?_
  refine Sim.seq ?_
  refine Sim.region0 ?_
  refine SimI.run 4 [(7, .one (lb (decide (a0.ID < 0)))), (6, .one (lb (decide (a0.ID < 0)))), (5, .one (li .i64 a0.ID)), (4, .one (.ptr 1 0))] [] (by kernel_rfl) ?_
  refine SimI.split 7 (decide (a0.ID < 0)) (by kernel_rfl) ?_ ?_
  · refine SimI.run 14 [(21, .one (lb true)), (20, .tup []), (19, .tup []), (18, .tup []), (17, .one (lb true)), (16, .one (lb true)), (15, .tup []), (14, .tup []), (13, .tup []), (12, .one (lb true)), (11, .one (lb true)), (10, .tup []), (9, .tup []), (8, .tup [])] [] (by kernel_rfl) ?_
    refine SimI.done (by kernel_rfl) ?_
    refine SimE.thenN ?_
    refine Sim.condT (by kernel_rfl) ?_
    refine Sim.seq ?_
    refine Sim.region0 ?_
    refine SimI.run 1 [(2, .one (lb false))] [] (by kernel_rfl) ?_
    refine SimI.done (by kernel_rfl) ?_
    refine SimE.thenN ?_
    refine Sim.ret ?_
    refine SimE.thenR ?_
    exact SimE.fin (by kernel_rfl)
  · refine SimI.run 5 [(12, .one (lb (decide ((1000000 : Int) < a0.ID)))), (11, .one (lb (decide ((1000000 : Int) < a0.ID)))), (10, .one (lb (decide ((1000000 : Int) < a0.ID)))), (9, .one (li .i64 a0.ID)), (8, .one (.ptr 1 0))] [] (by kernel_rfl) ?_
    refine SimI.split 12 (decide ((1000000 : Int) < a0.ID)) (by kernel_rfl) ?_ ?_
    · refine SimI.run 9 [(21, .one (lb true)), (20, .tup []), (19, .tup []), (18, .tup []), (17, .one (lb true)), (16, .one (lb true)), (15, .tup []), (14, .tup []), (13, .tup [])] [] (by kernel_rfl) ?_
      refine SimI.done (by kernel_rfl) ?_
      refine SimE.thenN ?_
      refine Sim.condT (by kernel_rfl) ?_
      refine Sim.seq ?_
      refine Sim.region0 ?_
      refine SimI.run 1 [(2, .one (lb false))] [] (by kernel_rfl) ?_
      refine SimI.done (by kernel_rfl) ?_
      refine SimE.thenN ?_
      refine Sim.ret ?_
      refine SimE.thenR ?_
      exact SimE.fin (by kernel_rfl)
    · refine SimI.run 5 [(17, .one (lb (decide (a0.Mask < 1)))), (16, .one (lb (decide (a0.Mask < 1)))), (15, .one (lb (decide (a0.Mask < 1)))), (14, .one (li .u8 a0.Mask)), (13, .one (.ptr 1 1))] [] (by kernel_rfl) ?_
      refine SimI.split 17 (decide (a0.Mask < 1)) (by kernel_rfl) ?_ ?_
      · refine SimI.run 4 [(21, .one (lb true)), (20, .tup []), (19, .tup []), (18, .tup [])] [] (by kernel_rfl) ?_
        refine SimI.done (by kernel_rfl) ?_
        refine SimE.thenN ?_
        refine Sim.condT (by kernel_rfl) ?_
        refine Sim.seq ?_
        refine Sim.region0 ?_
        refine SimI.run 1 [(2, .one (lb false))] [] (by kernel_rfl) ?_
        refine SimI.done (by kernel_rfl) ?_
        refine SimE.thenN ?_
        refine Sim.ret ?_
        refine SimE.thenR ?_
        exact SimE.fin (by kernel_rfl)
      · refine SimI.run 4 [(21, .one (lb (decide ((31 : Int) < a0.Mask)))), (20, .one (lb (decide ((31 : Int) < a0.Mask)))), (19, .one (li .u8 a0.Mask)), (18, .one (.ptr 1 1))] [] (by kernel_rfl) ?_
        refine SimI.done (by kernel_rfl) ?_
        refine SimE.thenN ?_
        refine Sim.cond (decide ((31 : Int) < a0.Mask)) (by kernel_rfl) ?_ ?_
        · refine Sim.seq ?_
          refine Sim.region0 ?_
          refine SimI.run 1 [(2, .one (lb false))] [] (by kernel_rfl) ?_
          refine SimI.done (by kernel_rfl) ?_
          refine SimE.thenN ?_
          refine Sim.ret ?_
          refine SimE.thenR ?_
          exact SimE.fin (by kernel_rfl)
        · refine Sim.skip ?_
          refine SimE.thenN ?_
          refine Sim.seq ?_
          refine Sim.seq ?_
          refine Sim.region0 ?_
          refine SimI.run 5 [(26, .one (lb ((bitsI .and .u8 a0.Mask 1) != 0))), (25, .one (lb ((bitsI .and .u8 a0.Mask 1) != 0))), (24, .one (li .u8 (bitsI .and .u8 a0.Mask 1))), (23, .one (li .u8 a0.Mask)), (22, .one (.ptr 1 1))] [] (by kernel_rfl) ?_
          refine SimI.split 26 ((bitsI .and .u8 a0.Mask 1) != 0) (by kernel_rfl) ?_ ?_
          · refine SimI.run 2 [(28, .agg [li .i64 a0.At.X, li .i64 a0.At.Y]), (27, .one (.ptr 1 2))] [] (by kernel_rfl) ?_
            refine SimI.bind (og := F46 n a0.At) { dst := some 29, op := POp.call true [[]] 46 [Operand.tmp 28], guard := some (26, true), hints := [] } (fun r1 => [(29, .one (lb r1))]) (fun r1 => []) (by kernel_rfl) (fun r1 hr => pOp_eff (by kernel_rfl) (by kernel_rfl) (eff_call (ARGS := [.agg [li .i64 a0.At.X, li .i64 a0.At.Y]]) (by kernel_rfl) (args_clean (by kernel_rfl) args_nil) (F46_ok n a0.At r1 hr) (by kernel_rfl))) (fun r1 => ?_)
            refine SimI.run 3 [(32, .one (lb (!(r1)))), (31, .one (lb (!(r1)))), (30, .one (lb (!(r1))))] [] (by kernel_rfl) ?_
            refine SimI.split 32 (!(r1)) (by kernel_rfl) ?_ ?_
            · refine SimI.run 11 [(43, .one (lb true)), (42, .tup []), (41, .tup []), (40, .tup []), (39, .tup []), (38, .tup []), (37, .tup []), (36, .tup []), (35, .tup []), (34, .tup []), (33, .tup [])] [] (by kernel_rfl) ?_
              refine SimI.done (by kernel_rfl) ?_
              refine SimE.thenN ?_
              refine Sim.condT (by kernel_rfl) ?_
              refine Sim.seq ?_
              refine Sim.region0 ?_
              refine SimI.run 1 [(2, .one (lb false))] [] (by kernel_rfl) ?_
              refine SimI.done (by kernel_rfl) ?_
              refine SimE.thenN ?_
              refine Sim.ret ?_
              refine SimE.thenR ?_
              exact SimE.fin (by kernel_rfl)
            · refine SimI.run 5 [(37, .one (lb ((bitsI .and .u8 a0.Mask 1) == 0))), (36, .one (lb ((bitsI .and .u8 a0.Mask 1) == 0))), (35, .one (li .u8 (bitsI .and .u8 a0.Mask 1))), (34, .one (li .u8 a0.Mask)), (33, .one (.ptr 1 1))] [] (by kernel_rfl) ?_
              refine SimI.split 37 ((bitsI .and .u8 a0.Mask 1) == 0) (by kernel_rfl) ?_ ?_
              · refine SimI.run 3 [(40, .agg [li .i64 0, li .i64 0]), (39, .agg [li .i64 a0.At.X, li .i64 a0.At.Y]), (38, .one (.ptr 1 2))] [] (by kernel_rfl) ?_
                refine SimI.step { dst := some 41, op := POp.prim (Prim.bin BinOp.neq 23 false false) [Operand.tmp 39, Operand.tmp 40], guard := some (37, true), hints := [] } [(41, .one (lb (!(Point.eqb a0.At (Point.mk 0 0)))))] [] (by kernel_rfl) (pOp_eff (by kernel_rfl) (by kernel_rfl) (eff_prim (by kernel_rfl) (Point_eqn a0.At (Point.mk 0 0) _ _))) ?_
                refine SimI.run 2 [(43, .one (lb (!(Point.eqb a0.At (Point.mk 0 0))))), (42, .one (lb (!(Point.eqb a0.At (Point.mk 0 0)))))] [] (by kernel_rfl) ?_
                refine SimI.done (by kernel_rfl) ?_
                refine SimE.thenN ?_
                refine Sim.cond (!(Point.eqb a0.At (Point.mk 0 0))) (by kernel_rfl) ?_ ?_
                · refine Sim.seq ?_
                  refine Sim.region0 ?_
                  refine SimI.run 1 [(2, .one (lb false))] [] (by kernel_rfl) ?_
                  refine SimI.done (by kernel_rfl) ?_
                  refine SimE.thenN ?_
                  refine Sim.ret ?_
                  refine SimE.thenR ?_
                  exact SimE.fin (by kernel_rfl)
                · refine Sim.skip ?_
                  refine SimE.thenN ?_
                  refine Sim.pre (ts := [1]) (os := [1]) [(1, .one (.ptr 1 0))] ((1, some (.cells [li .i64 a0.ID, li .u8 a0.Mask, li .i64 a0.At.X, li .i64 a0.At.Y, li .i64 a0.F.a0.N, ls a0.F.a0.Text, li .i64 a0.F.a1.N, ls a0.F.a1.Text, li .i64 a0.F.a2.N, ls a0.F.a2.Text, li .i64 a0.F.a3.N, ls a0.F.a3.Text])) :: []) (by kernel_rfl) (by kernel_rfl) (by kernel_rfl) ?_
                  exact F21_j2_ok n a0
              · refine SimI.run 6 [(43, .one (lb false)), (42, .one (lb false)), (41, .tup []), (40, .tup []), (39, .tup []), (38, .tup [])] [] (by kernel_rfl) ?_
                refine SimI.done (by kernel_rfl) ?_
                refine SimE.thenN ?_
                refine Sim.condF (by kernel_rfl) ?_
                refine Sim.skip ?_
                refine SimE.thenN ?_
                refine Sim.pre (ts := [1]) (os := [1]) [(1, .one (.ptr 1 0))] ((1, some (.cells [li .i64 a0.ID, li .u8 a0.Mask, li .i64 a0.At.X, li .i64 a0.At.Y, li .i64 a0.F.a0.N, ls a0.F.a0.Text, li .i64 a0.F.a1.N, ls a0.F.a1.Text, li .i64 a0.F.a2.N, ls a0.F.a2.Text, li .i64 a0.F.a3.N, ls a0.F.a3.Text])) :: []) (by kernel_rfl) (by kernel_rfl) (by kernel_rfl) ?_
                exact F21_j2_ok n a0
          · refine SimI.run 11 [(37, .one (lb ((bitsI .and .u8 a0.Mask 1) == 0))), (36, .one (lb ((bitsI .and .u8 a0.Mask 1) == 0))), (35, .one (li .u8 (bitsI .and .u8 a0.Mask 1))), (34, .one (li .u8 a0.Mask)), (33, .one (.ptr 1 1)), (32, .one (lb false)), (31, .one (lb false)), (30, .tup []), (29, .tup []), (28, .tup []), (27, .tup [])] [] (by kernel_rfl) ?_
            refine SimI.split 37 ((bitsI .and .u8 a0.Mask 1) == 0) (by kernel_rfl) ?_ ?_
            · refine SimI.run 3 [(40, .agg [li .i64 0, li .i64 0]), (39, .agg [li .i64 a0.At.X, li .i64 a0.At.Y]), (38, .one (.ptr 1 2))] [] (by kernel_rfl) ?_
              refine SimI.step { dst := some 41, op := POp.prim (Prim.bin BinOp.neq 23 false false) [Operand.tmp 39, Operand.tmp 40], guard := some (37, true), hints := [] } [(41, .one (lb (!(Point.eqb a0.At (Point.mk 0 0)))))] [] (by kernel_rfl) (pOp_eff (by kernel_rfl) (by kernel_rfl) (eff_prim (by kernel_rfl) (Point_eqn a0.At (Point.mk 0 0) _ _))) ?_
              refine SimI.run 2 [(43, .one (lb (!(Point.eqb a0.At (Point.mk 0 0))))), (42, .one (lb (!(Point.eqb a0.At (Point.mk 0 0)))))] [] (by kernel_rfl) ?_
              refine SimI.done (by kernel_rfl) ?_
              refine SimE.thenN ?_
              refine Sim.cond (!(Point.eqb a0.At (Point.mk 0 0))) (by kernel_rfl) ?_ ?_
              · refine Sim.seq ?_
                refine Sim.region0 ?_
                refine SimI.run 1 [(2, .one (lb false))] [] (by kernel_rfl) ?_
                refine SimI.done (by kernel_rfl) ?_
                refine SimE.thenN ?_
                refine Sim.ret ?_
                refine SimE.thenR ?_
                exact SimE.fin (by kernel_rfl)
              · refine Sim.skip ?_
                refine SimE.thenN ?_
                refine Sim.pre (ts := [1]) (os := [1]) [(1, .one (.ptr 1 0))] ((1, some (.cells [li .i64 a0.ID, li .u8 a0.Mask, li .i64 a0.At.X, li .i64 a0.At.Y, li .i64 a0.F.a0.N, ls a0.F.a0.Text, li .i64 a0.F.a1.N, ls a0.F.a1.Text, li .i64 a0.F.a2.N, ls a0.F.a2.Text, li .i64 a0.F.a3.N, ls a0.F.a3.Text])) :: []) (by kernel_rfl) (by kernel_rfl) (by kernel_rfl) ?_
                exact F21_j2_ok n a0
            · refine SimI.run 6 [(43, .one (lb false)), (42, .one (lb false)), (41, .tup []), (40, .tup []), (39, .tup []), (38, .tup [])] [] (by kernel_rfl) ?_
              refine SimI.done (by kernel_rfl) ?_
              refine SimE.thenN ?_
              refine Sim.condF (by kernel_rfl) ?_
              refine Sim.skip ?_
              refine SimE.thenN ?_
              refine Sim.pre (ts := [1]) (os := [1]) [(1, .one (.ptr 1 0))] ((1, some (.cells [li .i64 a0.ID, li .u8 a0.Mask, li .i64 a0.At.X, li .i64 a0.At.Y, li .i64 a0.F.a0.N, ls a0.F.a0.Text, li .i64 a0.F.a1.N, ls a0.F.a1.Text, li .i64 a0.F.a2.N, ls a0.F.a2.Text, li .i64 a0.F.a3.N, ls a0.F.a3.Text])) :: []) (by kernel_rfl) (by kernel_rfl) (by kernel_rfl) ?_
              exact F21_j2_ok n a0


-- 47: vedette/vedetteref1.Put
def F47_e : ByteArray → PV × List (List Lf) := fun r => (.one (ls r), [])
def F47_l7 (n : Nat) : Nat → Int → ByteArray → Option ByteArray
  | 0, _, _ => none
  | m + 1, i5, s6 =>
    if decide (i5 < 128) then
      if s6.size + (mkStr [IntKind.wrap .u8 i5]).size ≤ 9223372036854775807 then
        some (s6 ++ (mkStr [IntKind.wrap .u8 i5]))
      else none
    else
      if s6.size + (mkStr [bitsI .or .u8 (IntKind.wrap .u8 (bitsI .and .u64 i5 127)) 128]).size ≤ 9223372036854775807 then
        (F47_l7 n m) (shrI .u64 i5 7) (s6 ++ (mkStr [bitsI .or .u8 (IntKind.wrap .u8 (bitsI .and .u64 i5 127)) 128]))
      else none
theorem F47_l7_ok (n : Nat) : ∀ (m : Nat) (i5 : Int) (s6 : ByteArray), SimL Try.prog D (n + 8) m pc47_c14 [(0, .one (li .u64 i5)), (3, .one (ls s6))] [] (F47_l7 n m i5 s6) (QB 0 (QF pc47_r 0 F47_e)) := by
  intro m_l7
  induction m_l7 with
  | zero => intro i5 s6; exact SimL.zero'  rfl
  | succ m_l7 ih_l7 =>
    intro i5 s6
    refine SimL.succ ?_
    unfold F47_l7
    refine Sim.block ?_
    refine Sim.seq ?_
    refine Sim.seq ?_
    refine Sim.region [(0, .one (li .u64 i5)), (3, .one (ls s6))] [] (by kernel_rfl) ?_
    refine SimI.run 2 [(5, .one (lb (decide (i5 < 128)))), (4, .one (li .u64 i5))] [] (by kernel_rfl) ?_
    refine SimI.done (by kernel_rfl) ?_
    refine SimE.thenN ?_
    refine Sim.cond (decide (i5 < 128)) (by kernel_rfl) ?_ ?_
    · refine Sim.seq ?_
      refine Sim.region0 ?_
      refine SimI.run 4 [(9, .one (vw (codI .u8) [IntKind.wrap .u8 i5])), (8, .one (li .u8 (IntKind.wrap .u8 i5))), (7, .one (li .u64 i5)), (6, .one (ls s6))] [] (by kernel_rfl) ?_
      refine SimI.step { dst := some 10, op := POp.b2s (Operand.tmp 9), guard := none, hints := [] } [(10, .one (ls (mkStr [IntKind.wrap .u8 i5])))] [] (by kernel_rfl) (pOp_eff (by kernel_rfl) (by kernel_rfl) (eff_b2s (l := [IntKind.wrap .u8 i5]) (by kernel_rfl))) ?_
      refine SimI.guard (c := s6.size + (mkStr [IntKind.wrap .u8 i5]).size ≤ 9223372036854775807) { dst := some 11, op := POp.prim (Prim.bin BinOp.add 9 false false) [Operand.tmp 6, Operand.tmp 10], guard := none, hints := [] } [(11, .one (ls (s6 ++ (mkStr [IntKind.wrap .u8 i5]))))] [] (by kernel_rfl) (fun hc => pOp_eff (by kernel_rfl) (by kernel_rfl) (eff_prim (by kernel_rfl) (pr_addS _ _ _ s6 (mkStr [IntKind.wrap .u8 i5]) hc))) ?_
      refine SimI.run 1 [(2, .one (ls (s6 ++ (mkStr [IntKind.wrap .u8 i5]))))] [] (by kernel_rfl) ?_
      refine SimI.done (by kernel_rfl) ?_
      refine SimE.thenN ?_
      refine Sim.ret ?_
      refine SimE.thenR ?_
      refine SimE.blockR ?_
      refine SimE.loopR ?_
      refine SimE.blockR ?_
      exact SimE.fin (by kernel_rfl)
    · refine Sim.skip ?_
      refine SimE.thenN ?_
      refine Sim.seq ?_
      refine Sim.region0 ?_
      refine SimI.run 6 [(17, .one (vw (codI .u8) [bitsI .or .u8 (IntKind.wrap .u8 (bitsI .and .u64 i5 127)) 128])), (16, .one (li .u8 (bitsI .or .u8 (IntKind.wrap .u8 (bitsI .and .u64 i5 127)) 128))), (15, .one (li .u8 (IntKind.wrap .u8 (bitsI .and .u64 i5 127)))), (14, .one (li .u64 (bitsI .and .u64 i5 127))), (13, .one (li .u64 i5)), (12, .one (ls s6))] [] (by kernel_rfl) ?_
      refine SimI.step { dst := some 18, op := POp.b2s (Operand.tmp 17), guard := none, hints := [] } [(18, .one (ls (mkStr [bitsI .or .u8 (IntKind.wrap .u8 (bitsI .and .u64 i5 127)) 128])))] [] (by kernel_rfl) (pOp_eff (by kernel_rfl) (by kernel_rfl) (eff_b2s (l := [bitsI .or .u8 (IntKind.wrap .u8 (bitsI .and .u64 i5 127)) 128]) (by kernel_rfl))) ?_
      refine SimI.guard (c := s6.size + (mkStr [bitsI .or .u8 (IntKind.wrap .u8 (bitsI .and .u64 i5 127)) 128]).size ≤ 9223372036854775807) { dst := some 19, op := POp.prim (Prim.bin BinOp.add 9 false false) [Operand.tmp 12, Operand.tmp 18], guard := none, hints := [] } [(19, .one (ls (s6 ++ (mkStr [bitsI .or .u8 (IntKind.wrap .u8 (bitsI .and .u64 i5 127)) 128]))))] [] (by kernel_rfl) (fun hc => pOp_eff (by kernel_rfl) (by kernel_rfl) (eff_prim (by kernel_rfl) (pr_addS _ _ _ s6 (mkStr [bitsI .or .u8 (IntKind.wrap .u8 (bitsI .and .u64 i5 127)) 128]) hc))) ?_
      refine SimI.run 1 [(3, .one (ls (s6 ++ (mkStr [bitsI .or .u8 (IntKind.wrap .u8 (bitsI .and .u64 i5 127)) 128]))))] [] (by kernel_rfl) ?_
      refine SimI.done (by kernel_rfl) ?_
      refine SimE.thenN ?_
      refine Sim.region0 ?_
      refine SimI.run 3 [(0, .one (li .u64 (shrI .u64 i5 7))), (21, .one (li .u64 (shrI .u64 i5 7))), (20, .one (li .u64 i5))] [] (by kernel_rfl) ?_
      refine SimI.done (by kernel_rfl) ?_
      refine SimE.blockN ?_
      refine SimE.loopN ?_
      refine SimL.pre (ts := [0, 3]) (os := []) [(0, .one (li .u64 (shrI .u64 i5 7))), (3, .one (ls (s6 ++ (mkStr [bitsI .or .u8 (IntKind.wrap .u8 (bitsI .and .u64 i5 127)) 128]))))] [] (by kernel_rfl) (by kernel_rfl) (by kernel_rfl) ?_
      exact ih_l7 (shrI .u64 i5 7) (s6 ++ (mkStr [bitsI .or .u8 (IntKind.wrap .u8 (bitsI .and .u64 i5 127)) 128]))

def F47 (n : Nat) (a0 : Int) : Option ByteArray :=
  F47_l7 n (n + 8) a0 ByteArray.empty
theorem F47_ok (n : Nat) (a0 : Int) : ∀ r, F47 n a0 = some r → D 47 [.one (li .u64 a0)] [] = some (F47_e r) := by
  refine fn_to (D := D) (n := n + 8) (nt := 22) (rs := pc47_r) (c := pc47_c18) (L := [(0, .one (li .u64 a0))]) (M := []) (k := 0) rfl rfl rfl rfl rfl rfl ?_
  unfold F47
  refine Sim.seq ?_
  refine Sim.region0 ?_
  refine SimI.run 1 [(2, .one (ls ByteArray.empty))] [] (by kernel_rfl) ?_
  refine SimI.done (by kernel_rfl) ?_
  refine SimE.thenN ?_
  refine Sim.seq ?_
  refine Sim.region0 ?_
  refine SimI.run 1 [(3, .one (ls ByteArray.empty))] [] (by kernel_rfl) ?_
  refine SimI.done (by kernel_rfl) ?_
  refine SimE.thenN ?_
  refine Sim.block ?_
  refine Sim.loop ?_
  refine SimL.pre (ts := [0, 3]) (os := []) [(0, .one (li .u64 a0)), (3, .one (ls ByteArray.empty))] [] (by kernel_rfl) (by kernel_rfl) (by kernel_rfl) ?_
  exact F47_l7_ok n (n + 8) a0 ByteArray.empty


-- 48: vedette/vedetteref1.Text
def F48_e : ByteArray → PV × List (List Lf) := fun r => (.one (ls r), [])
def F48 (n : Nat) (a0 : ByteArray) : Option ByteArray :=
  (F47 n (IntKind.wrap .u64 (a0.size : Int))).bind fun (r1 : ByteArray) =>
  if r1.size + a0.size ≤ 9223372036854775807 then
    some (r1 ++ a0)
  else none
theorem F48_ok (n : Nat) (a0 : ByteArray) : ∀ r, F48 n a0 = some r → D 48 [.one (ls a0)] [] = some (F48_e r) := by
  refine fn_to (D := D) (n := n + 8) (nt := 9) (rs := pc48_r) (c := pc48_c5) (L := [(0, .one (ls a0))]) (M := []) (k := 0) rfl rfl rfl rfl rfl rfl ?_
  unfold F48
  refine Sim.seq ?_
  refine Sim.region0 ?_
  refine SimI.run 1 [(2, .one (ls ByteArray.empty))] [] (by kernel_rfl) ?_
  refine SimI.done (by kernel_rfl) ?_
  refine SimE.thenN ?_
  refine Sim.seq ?_
  refine Sim.region0 ?_
  refine SimI.run 3 [(5, .one (li .u64 (IntKind.wrap .u64 (a0.size : Int)))), (4, .one (li .i64 (a0.size : Int))), (3, .one (ls a0))] [] (by kernel_rfl) ?_
  refine SimI.bind (og := F47 n (IntKind.wrap .u64 (a0.size : Int))) { dst := some 6, op := POp.call true [[]] 47 [Operand.tmp 5], guard := none, hints := [] } (fun r1 => [(6, .one (ls r1))]) (fun r1 => []) (by kernel_rfl) (fun r1 hr => pOp_eff (by kernel_rfl) (by kernel_rfl) (eff_call (ARGS := [.one (li .u64 (IntKind.wrap .u64 (a0.size : Int)))]) (by kernel_rfl) (args_clean (by kernel_rfl) args_nil) (F47_ok n (IntKind.wrap .u64 (a0.size : Int)) r1 hr) (by kernel_rfl))) (fun r1 => ?_)
  refine SimI.run 1 [(7, .one (ls a0))] [] (by kernel_rfl) ?_
  refine SimI.guard (c := r1.size + a0.size ≤ 9223372036854775807) { dst := some 8, op := POp.prim (Prim.bin BinOp.add 9 false false) [Operand.tmp 6, Operand.tmp 7], guard := none, hints := [] } [(8, .one (ls (r1 ++ a0)))] [] (by kernel_rfl) (fun hc => pOp_eff (by kernel_rfl) (by kernel_rfl) (eff_prim (by kernel_rfl) (pr_addS _ _ _ r1 a0 hc))) ?_
  refine SimI.run 1 [(2, .one (ls (r1 ++ a0)))] [] (by kernel_rfl) ?_
  refine SimI.done (by kernel_rfl) ?_
  refine SimE.thenN ?_
  refine Sim.ret ?_
  exact SimE.fin (by kernel_rfl)


-- 69: vedette/vedetteref1.Zig
def F69_e : Int → PV × List (List Lf) := fun r => (.one (li .u64 r), [])
def F69 (n : Nat) (a0 : Int) : Option Int :=
  some (bitsI .xor .u64 (shlI .u64 (IntKind.wrap .u64 a0) 1) (IntKind.wrap .u64 (shrI .i64 a0 63)))
theorem F69_ok (n : Nat) (a0 : Int) : ∀ r, F69 n a0 = some r → D 69 [.one (li .i64 a0)] [] = some (F69_e r) := by
  refine fn_to (D := D) (n := n + 8) (nt := 10) (rs := pc69_r) (c := pc69_c5) (L := [(0, .one (li .i64 a0))]) (M := []) (k := 0) rfl rfl rfl rfl rfl rfl ?_
  unfold F69
  refine Sim.seq ?_
  refine Sim.region0 ?_
  refine SimI.run 1 [(2, .one (li .u64 0))] [] (by kernel_rfl) ?_
  refine SimI.done (by kernel_rfl) ?_
  refine SimE.thenN ?_
  refine Sim.seq ?_
  refine Sim.region0 ?_
  refine SimI.run 8 [(2, .one (li .u64 (bitsI .xor .u64 (shlI .u64 (IntKind.wrap .u64 a0) 1) (IntKind.wrap .u64 (shrI .i64 a0 63))))), (9, .one (li .u64 (bitsI .xor .u64 (shlI .u64 (IntKind.wrap .u64 a0) 1) (IntKind.wrap .u64 (shrI .i64 a0 63))))), (8, .one (li .u64 (IntKind.wrap .u64 (shrI .i64 a0 63)))), (7, .one (li .i64 (shrI .i64 a0 63))), (6, .one (li .i64 a0)), (5, .one (li .u64 (shlI .u64 (IntKind.wrap .u64 a0) 1))), (4, .one (li .u64 (IntKind.wrap .u64 a0))), (3, .one (li .i64 a0))] [] (by kernel_rfl) ?_
  refine SimI.done (by kernel_rfl) ?_
  refine SimE.thenN ?_
  refine Sim.ret ?_
  exact SimE.fin (by kernel_rfl)


-- 49: vedette/vedetteref1.Int
def F49_e : ByteArray → PV × List (List Lf) := fun r => (.one (ls r), [])
def F49 (n : Nat) (a0 : Int) : Option ByteArray :=
  (F69 n a0).bind fun (r1 : Int) =>
  (F47 n r1).bind fun (r2 : ByteArray) =>
  some r2
theorem F49_ok (n : Nat) (a0 : Int) : ∀ r, F49 n a0 = some r → D 49 [.one (li .i64 a0)] [] = some (F49_e r) := by
  refine fn_to (D := D) (n := n + 8) (nt := 6) (rs := pc49_r) (c := pc49_c5) (L := [(0, .one (li .i64 a0))]) (M := []) (k := 0) rfl rfl rfl rfl rfl rfl ?_
  unfold F49
  refine Sim.seq ?_
  refine Sim.region0 ?_
  refine SimI.run 1 [(2, .one (ls ByteArray.empty))] [] (by kernel_rfl) ?_
  refine SimI.done (by kernel_rfl) ?_
  refine SimE.thenN ?_
  refine Sim.seq ?_
  refine Sim.region0 ?_
  refine SimI.run 1 [(3, .one (li .i64 a0))] [] (by kernel_rfl) ?_
  refine SimI.bind (og := F69 n a0) { dst := some 4, op := POp.call true [[]] 69 [Operand.tmp 3], guard := none, hints := [] } (fun r1 => [(4, .one (li .u64 r1))]) (fun r1 => []) (by kernel_rfl) (fun r1 hr => pOp_eff (by kernel_rfl) (by kernel_rfl) (eff_call (ARGS := [.one (li .i64 a0)]) (by kernel_rfl) (args_clean (by kernel_rfl) args_nil) (F69_ok n a0 r1 hr) (by kernel_rfl))) (fun r1 => ?_)
  refine SimI.bind (og := F47 n r1) { dst := some 5, op := POp.call true [[]] 47 [Operand.tmp 4], guard := none, hints := [] } (fun r2 => [(5, .one (ls r2))]) (fun r2 => []) (by kernel_rfl) (fun r2 hr => pOp_eff (by kernel_rfl) (by kernel_rfl) (eff_call (ARGS := [.one (li .u64 r1)]) (by kernel_rfl) (args_clean (by kernel_rfl) args_nil) (F47_ok n r1 r2 hr) (by kernel_rfl))) (fun r2 => ?_)
  refine SimI.run 1 [(2, .one (ls r2))] [] (by kernel_rfl) ?_
  refine SimI.done (by kernel_rfl) ?_
  refine SimE.thenN ?_
  refine Sim.ret ?_
  exact SimE.fin (by kernel_rfl)


-- 22: vedette/vedetteref6.Bytes
def F22_e : ByteArray → PV × List (List Lf) := fun r => (.one (ls r), [])
def F22_u22 (n : Nat) (s21 : ByteArray) : Option ByteArray :=
    some s21
theorem F22_u22_ok (n : Nat) (a0 : Delta) (s21 : ByteArray) : SimL Try.prog D (n + 8) (n + 4) pc22_c28 [(1, .one (.ptr 1 0)), (3, .one (ls s21)), (4, .one (li .i64 4))] ((1, some (.cells [li .i64 a0.ID, li .u8 a0.Mask, li .i64 a0.At.X, li .i64 a0.At.Y, li .i64 a0.F.a0.N, ls a0.F.a0.Text, li .i64 a0.F.a1.N, ls a0.F.a1.Text, li .i64 a0.F.a2.N, ls a0.F.a2.Text, li .i64 a0.F.a3.N, ls a0.F.a3.Text])) :: []) (F22_u22 n s21) (QB 0 (QT Try.prog D (n + 8) pc22_c34 (QF pc22_r 0 F22_e))) := by
    unfold F22_u22
    refine SimL.succ ?_
    refine Sim.seq ?_
    refine Sim.seq ?_
    refine Sim.region [(1, .one (.ptr 1 0)), (3, .one (ls s21)), (4, .one (li .i64 4))] ((1, some (.cells [li .i64 a0.ID, li .u8 a0.Mask, li .i64 a0.At.X, li .i64 a0.At.Y, li .i64 a0.F.a0.N, ls a0.F.a0.Text, li .i64 a0.F.a1.N, ls a0.F.a1.Text, li .i64 a0.F.a2.N, ls a0.F.a2.Text, li .i64 a0.F.a3.N, ls a0.F.a3.Text])) :: []) (by kernel_rfl) ?_
    refine SimI.run 2 [(32, .one (lb false)), (31, .one (li .i64 4))] [] (by kernel_rfl) ?_
    refine SimI.done (by kernel_rfl) ?_
    refine SimE.thenN ?_
    refine Sim.condF (by kernel_rfl) ?_
    refine Sim.exit ?_
    refine SimE.thenX ?_
    refine SimE.loopX ?_
    refine SimE.blockX ?_
    refine SimE.thenN ?_
    refine Sim.seq ?_
    refine Sim.region0 ?_
    refine SimI.run 2 [(2, .one (ls s21)), (65, .one (ls s21))] [] (by kernel_rfl) ?_
    refine SimI.done (by kernel_rfl) ?_
    refine SimE.thenN ?_
    refine Sim.ret ?_
    exact SimE.fin (by kernel_rfl)

def F22_u18 (n : Nat) (a0 : Delta) (s17 : ByteArray) : Option ByteArray :=
    if (bitsI .and .u8 (shrI .u8 a0.Mask 4) 1) != 0 then
      (F48 n a0.F.a3.Text).bind fun (r19 : ByteArray) =>
      if s17.size + r19.size ≤ 9223372036854775807 then
        if a0.F.a3.Text.toList == ByteArray.empty.toList then
          (F49 n a0.F.a3.N).bind fun (r20 : ByteArray) =>
          if (s17 ++ r19).size + r20.size ≤ 9223372036854775807 then
            F22_u22 n ((s17 ++ r19) ++ r20)
          else none
        else
          F22_u22 n (s17 ++ r19)
      else none
    else
      F22_u22 n s17
theorem F22_u18_ok (n : Nat) (a0 : Delta) (s17 : ByteArray) : SimL Try.prog D (n + 8) (n + 5) pc22_c28 [(1, .one (.ptr 1 0)), (3, .one (ls s17)), (4, .one (li .i64 3))] ((1, some (.cells [li .i64 a0.ID, li .u8 a0.Mask, li .i64 a0.At.X, li .i64 a0.At.Y, li .i64 a0.F.a0.N, ls a0.F.a0.Text, li .i64 a0.F.a1.N, ls a0.F.a1.Text, li .i64 a0.F.a2.N, ls a0.F.a2.Text, li .i64 a0.F.a3.N, ls a0.F.a3.Text])) :: []) (F22_u18 n a0 s17) (QB 0 (QT Try.prog D (n + 8) pc22_c34 (QF pc22_r 0 F22_e))) := by
    unfold F22_u18
    refine SimL.succ ?_
    refine Sim.seq ?_
    refine Sim.seq ?_
    refine Sim.region [(1, .one (.ptr 1 0)), (3, .one (ls s17)), (4, .one (li .i64 3))] ((1, some (.cells [li .i64 a0.ID, li .u8 a0.Mask, li .i64 a0.At.X, li .i64 a0.At.Y, li .i64 a0.F.a0.N, ls a0.F.a0.Text, li .i64 a0.F.a1.N, ls a0.F.a1.Text, li .i64 a0.F.a2.N, ls a0.F.a2.Text, li .i64 a0.F.a3.N, ls a0.F.a3.Text])) :: []) (by kernel_rfl) ?_
    refine SimI.run 2 [(32, .one (lb true)), (31, .one (li .i64 3))] [] (by kernel_rfl) ?_
    refine SimI.done (by kernel_rfl) ?_
    refine SimE.thenN ?_
    refine Sim.condT (by kernel_rfl) ?_
    refine Sim.skip ?_
    refine SimE.thenN ?_
    refine Sim.seq ?_
    refine Sim.block ?_
    refine Sim.seq ?_
    refine Sim.region0 ?_
    refine SimI.run 8 [(42, .one (lb ((bitsI .and .u8 (shrI .u8 a0.Mask 4) 1) != 0))), (41, .one (li .u8 (bitsI .and .u8 (shrI .u8 a0.Mask 4) 1))), (40, .one (li .u8 (shrI .u8 a0.Mask 4))), (39, .one (li .u64 4)), (38, .one (li .i64 4)), (37, .one (li .i64 3)), (36, .one (li .u8 a0.Mask)), (35, .one (.ptr 1 1))] [] (by kernel_rfl) ?_
    refine SimI.done (by kernel_rfl) ?_
    refine SimE.thenN ?_
    refine Sim.cond ((bitsI .and .u8 (shrI .u8 a0.Mask 4) 1) != 0) (by kernel_rfl) ?_ ?_
    · refine Sim.seq ?_
      refine Sim.region0 ?_
      refine SimI.run 6 [(48, .one (ls a0.F.a3.Text)), (47, .one (.ptr 1 11)), (46, .one (.ptr 1 10)), (45, .one (.ptr 1 4)), (44, .one (li .i64 3)), (43, .one (ls s17))] [] (by kernel_rfl) ?_
      refine SimI.bind (og := F48 n a0.F.a3.Text) { dst := some 49, op := POp.call true [[]] 48 [Operand.tmp 48], guard := none, hints := [] } (fun r19 => [(49, .one (ls r19))]) (fun r19 => []) (by kernel_rfl) (fun r19 hr => pOp_eff (by kernel_rfl) (by kernel_rfl) (eff_call (ARGS := [.one (ls a0.F.a3.Text)]) (by kernel_rfl) (args_clean (by kernel_rfl) args_nil) (F48_ok n a0.F.a3.Text r19 hr) (by kernel_rfl))) (fun r19 => ?_)
      refine SimI.guard (c := s17.size + r19.size ≤ 9223372036854775807) { dst := some 50, op := POp.prim (Prim.bin BinOp.add 9 false false) [Operand.tmp 43, Operand.tmp 49], guard := none, hints := [] } [(50, .one (ls (s17 ++ r19)))] [] (by kernel_rfl) (fun hc => pOp_eff (by kernel_rfl) (by kernel_rfl) (eff_prim (by kernel_rfl) (pr_addS _ _ _ s17 r19 hc))) ?_
      refine SimI.run 1 [(3, .one (ls (s17 ++ r19)))] [] (by kernel_rfl) ?_
      refine SimI.done (by kernel_rfl) ?_
      refine SimE.thenN ?_
      refine Sim.seq ?_
      refine Sim.region0 ?_
      refine SimI.run 6 [(56, .one (lb (a0.F.a3.Text.toList == ByteArray.empty.toList))), (55, .one (ls a0.F.a3.Text)), (54, .one (.ptr 1 11)), (53, .one (.ptr 1 10)), (52, .one (.ptr 1 4)), (51, .one (li .i64 3))] [] (by kernel_rfl) ?_
      refine SimI.done (by kernel_rfl) ?_
      refine SimE.thenN ?_
      refine Sim.cond (a0.F.a3.Text.toList == ByteArray.empty.toList) (by kernel_rfl) ?_ ?_
      · refine Sim.region0 ?_
        refine SimI.run 6 [(62, .one (li .i64 a0.F.a3.N)), (61, .one (.ptr 1 10)), (60, .one (.ptr 1 10)), (59, .one (.ptr 1 4)), (58, .one (li .i64 3)), (57, .one (ls (s17 ++ r19)))] [] (by kernel_rfl) ?_
        refine SimI.bind (og := F49 n a0.F.a3.N) { dst := some 63, op := POp.call true [[]] 49 [Operand.tmp 62], guard := none, hints := [] } (fun r20 => [(63, .one (ls r20))]) (fun r20 => []) (by kernel_rfl) (fun r20 hr => pOp_eff (by kernel_rfl) (by kernel_rfl) (eff_call (ARGS := [.one (li .i64 a0.F.a3.N)]) (by kernel_rfl) (args_clean (by kernel_rfl) args_nil) (F49_ok n a0.F.a3.N r20 hr) (by kernel_rfl))) (fun r20 => ?_)
        refine SimI.guard (c := (s17 ++ r19).size + r20.size ≤ 9223372036854775807) { dst := some 64, op := POp.prim (Prim.bin BinOp.add 9 false false) [Operand.tmp 57, Operand.tmp 63], guard := none, hints := [] } [(64, .one (ls ((s17 ++ r19) ++ r20)))] [] (by kernel_rfl) (fun hc => pOp_eff (by kernel_rfl) (by kernel_rfl) (eff_prim (by kernel_rfl) (pr_addS _ _ _ (s17 ++ r19) r20 hc))) ?_
        refine SimI.run 1 [(3, .one (ls ((s17 ++ r19) ++ r20)))] [] (by kernel_rfl) ?_
        refine SimI.done (by kernel_rfl) ?_
        refine SimE.blockN ?_
        refine SimE.thenN ?_
        refine Sim.region0 ?_
        refine SimI.run 3 [(4, .one (li .i64 4)), (34, .one (li .i64 4)), (33, .one (li .i64 3))] [] (by kernel_rfl) ?_
        refine SimI.done (by kernel_rfl) ?_
        refine SimE.loopN ?_
        refine SimL.pre (ts := [1, 3, 4]) (os := [1]) [(1, .one (.ptr 1 0)), (3, .one (ls ((s17 ++ r19) ++ r20))), (4, .one (li .i64 4))] ((1, some (.cells [li .i64 a0.ID, li .u8 a0.Mask, li .i64 a0.At.X, li .i64 a0.At.Y, li .i64 a0.F.a0.N, ls a0.F.a0.Text, li .i64 a0.F.a1.N, ls a0.F.a1.Text, li .i64 a0.F.a2.N, ls a0.F.a2.Text, li .i64 a0.F.a3.N, ls a0.F.a3.Text])) :: []) (by kernel_rfl) (by kernel_rfl) (by kernel_rfl) ?_
        exact F22_u22_ok n a0 ((s17 ++ r19) ++ r20)
      · refine Sim.skip ?_
        refine SimE.blockN ?_
        refine SimE.thenN ?_
        refine Sim.region0 ?_
        refine SimI.run 3 [(4, .one (li .i64 4)), (34, .one (li .i64 4)), (33, .one (li .i64 3))] [] (by kernel_rfl) ?_
        refine SimI.done (by kernel_rfl) ?_
        refine SimE.loopN ?_
        refine SimL.pre (ts := [1, 3, 4]) (os := [1]) [(1, .one (.ptr 1 0)), (3, .one (ls (s17 ++ r19))), (4, .one (li .i64 4))] ((1, some (.cells [li .i64 a0.ID, li .u8 a0.Mask, li .i64 a0.At.X, li .i64 a0.At.Y, li .i64 a0.F.a0.N, ls a0.F.a0.Text, li .i64 a0.F.a1.N, ls a0.F.a1.Text, li .i64 a0.F.a2.N, ls a0.F.a2.Text, li .i64 a0.F.a3.N, ls a0.F.a3.Text])) :: []) (by kernel_rfl) (by kernel_rfl) (by kernel_rfl) ?_
        exact F22_u22_ok n a0 (s17 ++ r19)
    · refine Sim.skip ?_
      refine SimE.blockN ?_
      refine SimE.thenN ?_
      refine Sim.region0 ?_
      refine SimI.run 3 [(4, .one (li .i64 4)), (34, .one (li .i64 4)), (33, .one (li .i64 3))] [] (by kernel_rfl) ?_
      refine SimI.done (by kernel_rfl) ?_
      refine SimE.loopN ?_
      refine SimL.pre (ts := [1, 3, 4]) (os := [1]) [(1, .one (.ptr 1 0)), (3, .one (ls s17)), (4, .one (li .i64 4))] ((1, some (.cells [li .i64 a0.ID, li .u8 a0.Mask, li .i64 a0.At.X, li .i64 a0.At.Y, li .i64 a0.F.a0.N, ls a0.F.a0.Text, li .i64 a0.F.a1.N, ls a0.F.a1.Text, li .i64 a0.F.a2.N, ls a0.F.a2.Text, li .i64 a0.F.a3.N, ls a0.F.a3.Text])) :: []) (by kernel_rfl) (by kernel_rfl) (by kernel_rfl) ?_
      exact F22_u22_ok n a0 s17

def F22_u14 (n : Nat) (a0 : Delta) (s13 : ByteArray) : Option ByteArray :=
    if (bitsI .and .u8 (shrI .u8 a0.Mask 3) 1) != 0 then
      (F48 n a0.F.a2.Text).bind fun (r15 : ByteArray) =>
      if s13.size + r15.size ≤ 9223372036854775807 then
        if a0.F.a2.Text.toList == ByteArray.empty.toList then
          (F49 n a0.F.a2.N).bind fun (r16 : ByteArray) =>
          if (s13 ++ r15).size + r16.size ≤ 9223372036854775807 then
            F22_u18 n a0 ((s13 ++ r15) ++ r16)
          else none
        else
          F22_u18 n a0 (s13 ++ r15)
      else none
    else
      F22_u18 n a0 s13
theorem F22_u14_ok (n : Nat) (a0 : Delta) (s13 : ByteArray) : SimL Try.prog D (n + 8) (n + 6) pc22_c28 [(1, .one (.ptr 1 0)), (3, .one (ls s13)), (4, .one (li .i64 2))] ((1, some (.cells [li .i64 a0.ID, li .u8 a0.Mask, li .i64 a0.At.X, li .i64 a0.At.Y, li .i64 a0.F.a0.N, ls a0.F.a0.Text, li .i64 a0.F.a1.N, ls a0.F.a1.Text, li .i64 a0.F.a2.N, ls a0.F.a2.Text, li .i64 a0.F.a3.N, ls a0.F.a3.Text])) :: []) (F22_u14 n a0 s13) (QB 0 (QT Try.prog D (n + 8) pc22_c34 (QF pc22_r 0 F22_e))) := by
    unfold F22_u14
    refine SimL.succ ?_
    refine Sim.seq ?_
    refine Sim.seq ?_
    refine Sim.region [(1, .one (.ptr 1 0)), (3, .one (ls s13)), (4, .one (li .i64 2))] ((1, some (.cells [li .i64 a0.ID, li .u8 a0.Mask, li .i64 a0.At.X, li .i64 a0.At.Y, li .i64 a0.F.a0.N, ls a0.F.a0.Text, li .i64 a0.F.a1.N, ls a0.F.a1.Text, li .i64 a0.F.a2.N, ls a0.F.a2.Text, li .i64 a0.F.a3.N, ls a0.F.a3.Text])) :: []) (by kernel_rfl) ?_
    refine SimI.run 2 [(32, .one (lb true)), (31, .one (li .i64 2))] [] (by kernel_rfl) ?_
    refine SimI.done (by kernel_rfl) ?_
    refine SimE.thenN ?_
    refine Sim.condT (by kernel_rfl) ?_
    refine Sim.skip ?_
    refine SimE.thenN ?_
    refine Sim.seq ?_
    refine Sim.block ?_
    refine Sim.seq ?_
    refine Sim.region0 ?_
    refine SimI.run 8 [(42, .one (lb ((bitsI .and .u8 (shrI .u8 a0.Mask 3) 1) != 0))), (41, .one (li .u8 (bitsI .and .u8 (shrI .u8 a0.Mask 3) 1))), (40, .one (li .u8 (shrI .u8 a0.Mask 3))), (39, .one (li .u64 3)), (38, .one (li .i64 3)), (37, .one (li .i64 2)), (36, .one (li .u8 a0.Mask)), (35, .one (.ptr 1 1))] [] (by kernel_rfl) ?_
    refine SimI.done (by kernel_rfl) ?_
    refine SimE.thenN ?_
    refine Sim.cond ((bitsI .and .u8 (shrI .u8 a0.Mask 3) 1) != 0) (by kernel_rfl) ?_ ?_
    · refine Sim.seq ?_
      refine Sim.region0 ?_
      refine SimI.run 6 [(48, .one (ls a0.F.a2.Text)), (47, .one (.ptr 1 9)), (46, .one (.ptr 1 8)), (45, .one (.ptr 1 4)), (44, .one (li .i64 2)), (43, .one (ls s13))] [] (by kernel_rfl) ?_
      refine SimI.bind (og := F48 n a0.F.a2.Text) { dst := some 49, op := POp.call true [[]] 48 [Operand.tmp 48], guard := none, hints := [] } (fun r15 => [(49, .one (ls r15))]) (fun r15 => []) (by kernel_rfl) (fun r15 hr => pOp_eff (by kernel_rfl) (by kernel_rfl) (eff_call (ARGS := [.one (ls a0.F.a2.Text)]) (by kernel_rfl) (args_clean (by kernel_rfl) args_nil) (F48_ok n a0.F.a2.Text r15 hr) (by kernel_rfl))) (fun r15 => ?_)
      refine SimI.guard (c := s13.size + r15.size ≤ 9223372036854775807) { dst := some 50, op := POp.prim (Prim.bin BinOp.add 9 false false) [Operand.tmp 43, Operand.tmp 49], guard := none, hints := [] } [(50, .one (ls (s13 ++ r15)))] [] (by kernel_rfl) (fun hc => pOp_eff (by kernel_rfl) (by kernel_rfl) (eff_prim (by kernel_rfl) (pr_addS _ _ _ s13 r15 hc))) ?_
      refine SimI.run 1 [(3, .one (ls (s13 ++ r15)))] [] (by kernel_rfl) ?_
      refine SimI.done (by kernel_rfl) ?_
      refine SimE.thenN ?_
      refine Sim.seq ?_
      refine Sim.region0 ?_
      refine SimI.run 6 [(56, .one (lb (a0.F.a2.Text.toList == ByteArray.empty.toList))), (55, .one (ls a0.F.a2.Text)), (54, .one (.ptr 1 9)), (53, .one (.ptr 1 8)), (52, .one (.ptr 1 4)), (51, .one (li .i64 2))] [] (by kernel_rfl) ?_
      refine SimI.done (by kernel_rfl) ?_
      refine SimE.thenN ?_
      refine Sim.cond (a0.F.a2.Text.toList == ByteArray.empty.toList) (by kernel_rfl) ?_ ?_
      · refine Sim.region0 ?_
        refine SimI.run 6 [(62, .one (li .i64 a0.F.a2.N)), (61, .one (.ptr 1 8)), (60, .one (.ptr 1 8)), (59, .one (.ptr 1 4)), (58, .one (li .i64 2)), (57, .one (ls (s13 ++ r15)))] [] (by kernel_rfl) ?_
        refine SimI.bind (og := F49 n a0.F.a2.N) { dst := some 63, op := POp.call true [[]] 49 [Operand.tmp 62], guard := none, hints := [] } (fun r16 => [(63, .one (ls r16))]) (fun r16 => []) (by kernel_rfl) (fun r16 hr => pOp_eff (by kernel_rfl) (by kernel_rfl) (eff_call (ARGS := [.one (li .i64 a0.F.a2.N)]) (by kernel_rfl) (args_clean (by kernel_rfl) args_nil) (F49_ok n a0.F.a2.N r16 hr) (by kernel_rfl))) (fun r16 => ?_)
        refine SimI.guard (c := (s13 ++ r15).size + r16.size ≤ 9223372036854775807) { dst := some 64, op := POp.prim (Prim.bin BinOp.add 9 false false) [Operand.tmp 57, Operand.tmp 63], guard := none, hints := [] } [(64, .one (ls ((s13 ++ r15) ++ r16)))] [] (by kernel_rfl) (fun hc => pOp_eff (by kernel_rfl) (by kernel_rfl) (eff_prim (by kernel_rfl) (pr_addS _ _ _ (s13 ++ r15) r16 hc))) ?_
        refine SimI.run 1 [(3, .one (ls ((s13 ++ r15) ++ r16)))] [] (by kernel_rfl) ?_
        refine SimI.done (by kernel_rfl) ?_
        refine SimE.blockN ?_
        refine SimE.thenN ?_
        refine Sim.region0 ?_
        refine SimI.run 3 [(4, .one (li .i64 3)), (34, .one (li .i64 3)), (33, .one (li .i64 2))] [] (by kernel_rfl) ?_
        refine SimI.done (by kernel_rfl) ?_
        refine SimE.loopN ?_
        refine SimL.pre (ts := [1, 3, 4]) (os := [1]) [(1, .one (.ptr 1 0)), (3, .one (ls ((s13 ++ r15) ++ r16))), (4, .one (li .i64 3))] ((1, some (.cells [li .i64 a0.ID, li .u8 a0.Mask, li .i64 a0.At.X, li .i64 a0.At.Y, li .i64 a0.F.a0.N, ls a0.F.a0.Text, li .i64 a0.F.a1.N, ls a0.F.a1.Text, li .i64 a0.F.a2.N, ls a0.F.a2.Text, li .i64 a0.F.a3.N, ls a0.F.a3.Text])) :: []) (by kernel_rfl) (by kernel_rfl) (by kernel_rfl) ?_
        exact F22_u18_ok n a0 ((s13 ++ r15) ++ r16)
      · refine Sim.skip ?_
        refine SimE.blockN ?_
        refine SimE.thenN ?_
        refine Sim.region0 ?_
        refine SimI.run 3 [(4, .one (li .i64 3)), (34, .one (li .i64 3)), (33, .one (li .i64 2))] [] (by kernel_rfl) ?_
        refine SimI.done (by kernel_rfl) ?_
        refine SimE.loopN ?_
        refine SimL.pre (ts := [1, 3, 4]) (os := [1]) [(1, .one (.ptr 1 0)), (3, .one (ls (s13 ++ r15))), (4, .one (li .i64 3))] ((1, some (.cells [li .i64 a0.ID, li .u8 a0.Mask, li .i64 a0.At.X, li .i64 a0.At.Y, li .i64 a0.F.a0.N, ls a0.F.a0.Text, li .i64 a0.F.a1.N, ls a0.F.a1.Text, li .i64 a0.F.a2.N, ls a0.F.a2.Text, li .i64 a0.F.a3.N, ls a0.F.a3.Text])) :: []) (by kernel_rfl) (by kernel_rfl) (by kernel_rfl) ?_
        exact F22_u18_ok n a0 (s13 ++ r15)
    · refine Sim.skip ?_
      refine SimE.blockN ?_
      refine SimE.thenN ?_
      refine Sim.region0 ?_
      refine SimI.run 3 [(4, .one (li .i64 3)), (34, .one (li .i64 3)), (33, .one (li .i64 2))] [] (by kernel_rfl) ?_
      refine SimI.done (by kernel_rfl) ?_
      refine SimE.loopN ?_
      refine SimL.pre (ts := [1, 3, 4]) (os := [1]) [(1, .one (.ptr 1 0)), (3, .one (ls s13)), (4, .one (li .i64 3))] ((1, some (.cells [li .i64 a0.ID, li .u8 a0.Mask, li .i64 a0.At.X, li .i64 a0.At.Y, li .i64 a0.F.a0.N, ls a0.F.a0.Text, li .i64 a0.F.a1.N, ls a0.F.a1.Text, li .i64 a0.F.a2.N, ls a0.F.a2.Text, li .i64 a0.F.a3.N, ls a0.F.a3.Text])) :: []) (by kernel_rfl) (by kernel_rfl) (by kernel_rfl) ?_
      exact F22_u18_ok n a0 s13

def F22_u10 (n : Nat) (a0 : Delta) (s9 : ByteArray) : Option ByteArray :=
    if (bitsI .and .u8 (shrI .u8 a0.Mask 2) 1) != 0 then
      (F48 n a0.F.a1.Text).bind fun (r11 : ByteArray) =>
      if s9.size + r11.size ≤ 9223372036854775807 then
        if a0.F.a1.Text.toList == ByteArray.empty.toList then
          (F49 n a0.F.a1.N).bind fun (r12 : ByteArray) =>
          if (s9 ++ r11).size + r12.size ≤ 9223372036854775807 then
            F22_u14 n a0 ((s9 ++ r11) ++ r12)
          else none
        else
          F22_u14 n a0 (s9 ++ r11)
      else none
    else
      F22_u14 n a0 s9
theorem F22_u10_ok (n : Nat) (a0 : Delta) (s9 : ByteArray) : SimL Try.prog D (n + 8) (n + 7) pc22_c28 [(1, .one (.ptr 1 0)), (3, .one (ls s9)), (4, .one (li .i64 1))] ((1, some (.cells [li .i64 a0.ID, li .u8 a0.Mask, li .i64 a0.At.X, li .i64 a0.At.Y, li .i64 a0.F.a0.N, ls a0.F.a0.Text, li .i64 a0.F.a1.N, ls a0.F.a1.Text, li .i64 a0.F.a2.N, ls a0.F.a2.Text, li .i64 a0.F.a3.N, ls a0.F.a3.Text])) :: []) (F22_u10 n a0 s9) (QB 0 (QT Try.prog D (n + 8) pc22_c34 (QF pc22_r 0 F22_e))) := by
    unfold F22_u10
    refine SimL.succ ?_
    refine Sim.seq ?_
    refine Sim.seq ?_
    refine Sim.region [(1, .one (.ptr 1 0)), (3, .one (ls s9)), (4, .one (li .i64 1))] ((1, some (.cells [li .i64 a0.ID, li .u8 a0.Mask, li .i64 a0.At.X, li .i64 a0.At.Y, li .i64 a0.F.a0.N, ls a0.F.a0.Text, li .i64 a0.F.a1.N, ls a0.F.a1.Text, li .i64 a0.F.a2.N, ls a0.F.a2.Text, li .i64 a0.F.a3.N, ls a0.F.a3.Text])) :: []) (by kernel_rfl) ?_
    refine SimI.run 2 [(32, .one (lb true)), (31, .one (li .i64 1))] [] (by kernel_rfl) ?_
    refine SimI.done (by kernel_rfl) ?_
    refine SimE.thenN ?_
    refine Sim.condT (by kernel_rfl) ?_
    refine Sim.skip ?_
    refine SimE.thenN ?_
    refine Sim.seq ?_
    refine Sim.block ?_
    refine Sim.seq ?_
    refine Sim.region0 ?_
    refine SimI.run 8 [(42, .one (lb ((bitsI .and .u8 (shrI .u8 a0.Mask 2) 1) != 0))), (41, .one (li .u8 (bitsI .and .u8 (shrI .u8 a0.Mask 2) 1))), (40, .one (li .u8 (shrI .u8 a0.Mask 2))), (39, .one (li .u64 2)), (38, .one (li .i64 2)), (37, .one (li .i64 1)), (36, .one (li .u8 a0.Mask)), (35, .one (.ptr 1 1))] [] (by kernel_rfl) ?_
    refine SimI.done (by kernel_rfl) ?_
    refine SimE.thenN ?_
    refine Sim.cond ((bitsI .and .u8 (shrI .u8 a0.Mask 2) 1) != 0) (by kernel_rfl) ?_ ?_
    · refine Sim.seq ?_
      refine Sim.region0 ?_
      refine SimI.run 6 [(48, .one (ls a0.F.a1.Text)), (47, .one (.ptr 1 7)), (46, .one (.ptr 1 6)), (45, .one (.ptr 1 4)), (44, .one (li .i64 1)), (43, .one (ls s9))] [] (by kernel_rfl) ?_
      refine SimI.bind (og := F48 n a0.F.a1.Text) { dst := some 49, op := POp.call true [[]] 48 [Operand.tmp 48], guard := none, hints := [] } (fun r11 => [(49, .one (ls r11))]) (fun r11 => []) (by kernel_rfl) (fun r11 hr => pOp_eff (by kernel_rfl) (by kernel_rfl) (eff_call (ARGS := [.one (ls a0.F.a1.Text)]) (by kernel_rfl) (args_clean (by kernel_rfl) args_nil) (F48_ok n a0.F.a1.Text r11 hr) (by kernel_rfl))) (fun r11 => ?_)
      refine SimI.guard (c := s9.size + r11.size ≤ 9223372036854775807) { dst := some 50, op := POp.prim (Prim.bin BinOp.add 9 false false) [Operand.tmp 43, Operand.tmp 49], guard := none, hints := [] } [(50, .one (ls (s9 ++ r11)))] [] (by kernel_rfl) (fun hc => pOp_eff (by kernel_rfl) (by kernel_rfl) (eff_prim (by kernel_rfl) (pr_addS _ _ _ s9 r11 hc))) ?_
      refine SimI.run 1 [(3, .one (ls (s9 ++ r11)))] [] (by kernel_rfl) ?_
      refine SimI.done (by kernel_rfl) ?_
      refine SimE.thenN ?_
      refine Sim.seq ?_
      refine Sim.region0 ?_
      refine SimI.run 6 [(56, .one (lb (a0.F.a1.Text.toList == ByteArray.empty.toList))), (55, .one (ls a0.F.a1.Text)), (54, .one (.ptr 1 7)), (53, .one (.ptr 1 6)), (52, .one (.ptr 1 4)), (51, .one (li .i64 1))] [] (by kernel_rfl) ?_
      refine SimI.done (by kernel_rfl) ?_
      refine SimE.thenN ?_
      refine Sim.cond (a0.F.a1.Text.toList == ByteArray.empty.toList) (by kernel_rfl) ?_ ?_
      · refine Sim.region0 ?_
        refine SimI.run 6 [(62, .one (li .i64 a0.F.a1.N)), (61, .one (.ptr 1 6)), (60, .one (.ptr 1 6)), (59, .one (.ptr 1 4)), (58, .one (li .i64 1)), (57, .one (ls (s9 ++ r11)))] [] (by kernel_rfl) ?_
        refine SimI.bind (og := F49 n a0.F.a1.N) { dst := some 63, op := POp.call true [[]] 49 [Operand.tmp 62], guard := none, hints := [] } (fun r12 => [(63, .one (ls r12))]) (fun r12 => []) (by kernel_rfl) (fun r12 hr => pOp_eff (by kernel_rfl) (by kernel_rfl) (eff_call (ARGS := [.one (li .i64 a0.F.a1.N)]) (by kernel_rfl) (args_clean (by kernel_rfl) args_nil) (F49_ok n a0.F.a1.N r12 hr) (by kernel_rfl))) (fun r12 => ?_)
        refine SimI.guard (c := (s9 ++ r11).size + r12.size ≤ 9223372036854775807) { dst := some 64, op := POp.prim (Prim.bin BinOp.add 9 false false) [Operand.tmp 57, Operand.tmp 63], guard := none, hints := [] } [(64, .one (ls ((s9 ++ r11) ++ r12)))] [] (by kernel_rfl) (fun hc => pOp_eff (by kernel_rfl) (by kernel_rfl) (eff_prim (by kernel_rfl) (pr_addS _ _ _ (s9 ++ r11) r12 hc))) ?_
        refine SimI.run 1 [(3, .one (ls ((s9 ++ r11) ++ r12)))] [] (by kernel_rfl) ?_
        refine SimI.done (by kernel_rfl) ?_
        refine SimE.blockN ?_
        refine SimE.thenN ?_
        refine Sim.region0 ?_
        refine SimI.run 3 [(4, .one (li .i64 2)), (34, .one (li .i64 2)), (33, .one (li .i64 1))] [] (by kernel_rfl) ?_
        refine SimI.done (by kernel_rfl) ?_
        refine SimE.loopN ?_
        refine SimL.pre (ts := [1, 3, 4]) (os := [1]) [(1, .one (.ptr 1 0)), (3, .one (ls ((s9 ++ r11) ++ r12))), (4, .one (li .i64 2))] ((1, some (.cells [li .i64 a0.ID, li .u8 a0.Mask, li .i64 a0.At.X, li .i64 a0.At.Y, li .i64 a0.F.a0.N, ls a0.F.a0.Text, li .i64 a0.F.a1.N, ls a0.F.a1.Text, li .i64 a0.F.a2.N, ls a0.F.a2.Text, li .i64 a0.F.a3.N, ls a0.F.a3.Text])) :: []) (by kernel_rfl) (by kernel_rfl) (by kernel_rfl) ?_
        exact F22_u14_ok n a0 ((s9 ++ r11) ++ r12)
      · refine Sim.skip ?_
        refine SimE.blockN ?_
        refine SimE.thenN ?_
        refine Sim.region0 ?_
        refine SimI.run 3 [(4, .one (li .i64 2)), (34, .one (li .i64 2)), (33, .one (li .i64 1))] [] (by kernel_rfl) ?_
        refine SimI.done (by kernel_rfl) ?_
        refine SimE.loopN ?_
        refine SimL.pre (ts := [1, 3, 4]) (os := [1]) [(1, .one (.ptr 1 0)), (3, .one (ls (s9 ++ r11))), (4, .one (li .i64 2))] ((1, some (.cells [li .i64 a0.ID, li .u8 a0.Mask, li .i64 a0.At.X, li .i64 a0.At.Y, li .i64 a0.F.a0.N, ls a0.F.a0.Text, li .i64 a0.F.a1.N, ls a0.F.a1.Text, li .i64 a0.F.a2.N, ls a0.F.a2.Text, li .i64 a0.F.a3.N, ls a0.F.a3.Text])) :: []) (by kernel_rfl) (by kernel_rfl) (by kernel_rfl) ?_
        exact F22_u14_ok n a0 (s9 ++ r11)
    · refine Sim.skip ?_
      refine SimE.blockN ?_
      refine SimE.thenN ?_
      refine Sim.region0 ?_
      refine SimI.run 3 [(4, .one (li .i64 2)), (34, .one (li .i64 2)), (33, .one (li .i64 1))] [] (by kernel_rfl) ?_
      refine SimI.done (by kernel_rfl) ?_
      refine SimE.loopN ?_
      refine SimL.pre (ts := [1, 3, 4]) (os := [1]) [(1, .one (.ptr 1 0)), (3, .one (ls s9)), (4, .one (li .i64 2))] ((1, some (.cells [li .i64 a0.ID, li .u8 a0.Mask, li .i64 a0.At.X, li .i64 a0.At.Y, li .i64 a0.F.a0.N, ls a0.F.a0.Text, li .i64 a0.F.a1.N, ls a0.F.a1.Text, li .i64 a0.F.a2.N, ls a0.F.a2.Text, li .i64 a0.F.a3.N, ls a0.F.a3.Text])) :: []) (by kernel_rfl) (by kernel_rfl) (by kernel_rfl) ?_
      exact F22_u14_ok n a0 s9

def F22_j6 (n : Nat) (a0 : Delta) (s5 : ByteArray) : Option ByteArray :=
    if (bitsI .and .u8 (shrI .u8 a0.Mask 1) 1) != 0 then
      (F48 n a0.F.a0.Text).bind fun (r7 : ByteArray) =>
      if s5.size + r7.size ≤ 9223372036854775807 then
        if a0.F.a0.Text.toList == ByteArray.empty.toList then
          (F49 n a0.F.a0.N).bind fun (r8 : ByteArray) =>
          if (s5 ++ r7).size + r8.size ≤ 9223372036854775807 then
            F22_u10 n a0 ((s5 ++ r7) ++ r8)
          else none
        else
          F22_u10 n a0 (s5 ++ r7)
      else none
    else
      F22_u10 n a0 s5
theorem F22_j6_ok (n : Nat) (a0 : Delta) (s5 : ByteArray) : Sim Try.prog D (n + 8) pc22_c35 [(1, .one (.ptr 1 0)), (3, .one (ls s5))] ((1, some (.cells [li .i64 a0.ID, li .u8 a0.Mask, li .i64 a0.At.X, li .i64 a0.At.Y, li .i64 a0.F.a0.N, ls a0.F.a0.Text, li .i64 a0.F.a1.N, ls a0.F.a1.Text, li .i64 a0.F.a2.N, ls a0.F.a2.Text, li .i64 a0.F.a3.N, ls a0.F.a3.Text])) :: []) (F22_j6 n a0 s5) (QF pc22_r 0 F22_e) := by
    unfold F22_j6
    refine Sim.seq ?_
    refine Sim.seq ?_
    refine Sim.region [(1, .one (.ptr 1 0)), (3, .one (ls s5))] ((1, some (.cells [li .i64 a0.ID, li .u8 a0.Mask, li .i64 a0.At.X, li .i64 a0.At.Y, li .i64 a0.F.a0.N, ls a0.F.a0.Text, li .i64 a0.F.a1.N, ls a0.F.a1.Text, li .i64 a0.F.a2.N, ls a0.F.a2.Text, li .i64 a0.F.a3.N, ls a0.F.a3.Text])) :: []) (by kernel_rfl) ?_
    refine SimI.run 1 [(4, .one (li .i64 0))] [] (by kernel_rfl) ?_
    refine SimI.done (by kernel_rfl) ?_
    refine SimE.thenN ?_
    refine Sim.block ?_
    refine Sim.loop ?_
    refine SimL.succ ?_
    refine Sim.seq ?_
    refine Sim.seq ?_
    refine Sim.region [(1, .one (.ptr 1 0)), (3, .one (ls s5)), (4, .one (li .i64 0))] ((1, some (.cells [li .i64 a0.ID, li .u8 a0.Mask, li .i64 a0.At.X, li .i64 a0.At.Y, li .i64 a0.F.a0.N, ls a0.F.a0.Text, li .i64 a0.F.a1.N, ls a0.F.a1.Text, li .i64 a0.F.a2.N, ls a0.F.a2.Text, li .i64 a0.F.a3.N, ls a0.F.a3.Text])) :: []) (by kernel_rfl) ?_
    refine SimI.run 2 [(32, .one (lb true)), (31, .one (li .i64 0))] [] (by kernel_rfl) ?_
    refine SimI.done (by kernel_rfl) ?_
    refine SimE.thenN ?_
    refine Sim.condT (by kernel_rfl) ?_
    refine Sim.skip ?_
    refine SimE.thenN ?_
    refine Sim.seq ?_
    refine Sim.block ?_
    refine Sim.seq ?_
    refine Sim.region0 ?_
    refine SimI.run 8 [(42, .one (lb ((bitsI .and .u8 (shrI .u8 a0.Mask 1) 1) != 0))), (41, .one (li .u8 (bitsI .and .u8 (shrI .u8 a0.Mask 1) 1))), (40, .one (li .u8 (shrI .u8 a0.Mask 1))), (39, .one (li .u64 1)), (38, .one (li .i64 1)), (37, .one (li .i64 0)), (36, .one (li .u8 a0.Mask)), (35, .one (.ptr 1 1))] [] (by kernel_rfl) ?_
    refine SimI.done (by kernel_rfl) ?_
    refine SimE.thenN ?_
    refine Sim.cond ((bitsI .and .u8 (shrI .u8 a0.Mask 1) 1) != 0) (by kernel_rfl) ?_ ?_
    · refine Sim.seq ?_
      refine Sim.region0 ?_
      refine SimI.run 6 [(48, .one (ls a0.F.a0.Text)), (47, .one (.ptr 1 5)), (46, .one (.ptr 1 4)), (45, .one (.ptr 1 4)), (44, .one (li .i64 0)), (43, .one (ls s5))] [] (by kernel_rfl) ?_
      refine SimI.bind (og := F48 n a0.F.a0.Text) { dst := some 49, op := POp.call true [[]] 48 [Operand.tmp 48], guard := none, hints := [] } (fun r7 => [(49, .one (ls r7))]) (fun r7 => []) (by kernel_rfl) (fun r7 hr => pOp_eff (by kernel_rfl) (by kernel_rfl) (eff_call (ARGS := [.one (ls a0.F.a0.Text)]) (by kernel_rfl) (args_clean (by kernel_rfl) args_nil) (F48_ok n a0.F.a0.Text r7 hr) (by kernel_rfl))) (fun r7 => ?_)
      refine SimI.guard (c := s5.size + r7.size ≤ 9223372036854775807) { dst := some 50, op := POp.prim (Prim.bin BinOp.add 9 false false) [Operand.tmp 43, Operand.tmp 49], guard := none, hints := [] } [(50, .one (ls (s5 ++ r7)))] [] (by kernel_rfl) (fun hc => pOp_eff (by kernel_rfl) (by kernel_rfl) (eff_prim (by kernel_rfl) (pr_addS _ _ _ s5 r7 hc))) ?_
      refine SimI.run 1 [(3, .one (ls (s5 ++ r7)))] [] (by kernel_rfl) ?_
      refine SimI.done (by kernel_rfl) ?_
      refine SimE.thenN ?_
      refine Sim.seq ?_
      refine Sim.region0 ?_
      refine SimI.run 6 [(56, .one (lb (a0.F.a0.Text.toList == ByteArray.empty.toList))), (55, .one (ls a0.F.a0.Text)), (54, .one (.ptr 1 5)), (53, .one (.ptr 1 4)), (52, .one (.ptr 1 4)), (51, .one (li .i64 0))] [] (by kernel_rfl) ?_
      refine SimI.done (by kernel_rfl) ?_
      refine SimE.thenN ?_
      refine Sim.cond (a0.F.a0.Text.toList == ByteArray.empty.toList) (by kernel_rfl) ?_ ?_
      · refine Sim.region0 ?_
        refine SimI.run 6 [(62, .one (li .i64 a0.F.a0.N)), (61, .one (.ptr 1 4)), (60, .one (.ptr 1 4)), (59, .one (.ptr 1 4)), (58, .one (li .i64 0)), (57, .one (ls (s5 ++ r7)))] [] (by kernel_rfl) ?_
        refine SimI.bind (og := F49 n a0.F.a0.N) { dst := some 63, op := POp.call true [[]] 49 [Operand.tmp 62], guard := none, hints := [] } (fun r8 => [(63, .one (ls r8))]) (fun r8 => []) (by kernel_rfl) (fun r8 hr => pOp_eff (by kernel_rfl) (by kernel_rfl) (eff_call (ARGS := [.one (li .i64 a0.F.a0.N)]) (by kernel_rfl) (args_clean (by kernel_rfl) args_nil) (F49_ok n a0.F.a0.N r8 hr) (by kernel_rfl))) (fun r8 => ?_)
        refine SimI.guard (c := (s5 ++ r7).size + r8.size ≤ 9223372036854775807) { dst := some 64, op := POp.prim (Prim.bin BinOp.add 9 false false) [Operand.tmp 57, Operand.tmp 63], guard := none, hints := [] } [(64, .one (ls ((s5 ++ r7) ++ r8)))] [] (by kernel_rfl) (fun hc => pOp_eff (by kernel_rfl) (by kernel_rfl) (eff_prim (by kernel_rfl) (pr_addS _ _ _ (s5 ++ r7) r8 hc))) ?_
        refine SimI.run 1 [(3, .one (ls ((s5 ++ r7) ++ r8)))] [] (by kernel_rfl) ?_
        refine SimI.done (by kernel_rfl) ?_
        refine SimE.blockN ?_
        refine SimE.thenN ?_
        refine Sim.region0 ?_
        refine SimI.run 3 [(4, .one (li .i64 1)), (34, .one (li .i64 1)), (33, .one (li .i64 0))] [] (by kernel_rfl) ?_
        refine SimI.done (by kernel_rfl) ?_
        refine SimE.loopN ?_
        refine SimL.pre (ts := [1, 3, 4]) (os := [1]) [(1, .one (.ptr 1 0)), (3, .one (ls ((s5 ++ r7) ++ r8))), (4, .one (li .i64 1))] ((1, some (.cells [li .i64 a0.ID, li .u8 a0.Mask, li .i64 a0.At.X, li .i64 a0.At.Y, li .i64 a0.F.a0.N, ls a0.F.a0.Text, li .i64 a0.F.a1.N, ls a0.F.a1.Text, li .i64 a0.F.a2.N, ls a0.F.a2.Text, li .i64 a0.F.a3.N, ls a0.F.a3.Text])) :: []) (by kernel_rfl) (by kernel_rfl) (by kernel_rfl) ?_
        exact F22_u10_ok n a0 ((s5 ++ r7) ++ r8)
      · refine Sim.skip ?_
        refine SimE.blockN ?_
        refine SimE.thenN ?_
        refine Sim.region0 ?_
        refine SimI.run 3 [(4, .one (li .i64 1)), (34, .one (li .i64 1)), (33, .one (li .i64 0))] [] (by kernel_rfl) ?_
        refine SimI.done (by kernel_rfl) ?_
        refine SimE.loopN ?_
        refine SimL.pre (ts := [1, 3, 4]) (os := [1]) [(1, .one (.ptr 1 0)), (3, .one (ls (s5 ++ r7))), (4, .one (li .i64 1))] ((1, some (.cells [li .i64 a0.ID, li .u8 a0.Mask, li .i64 a0.At.X, li .i64 a0.At.Y, li .i64 a0.F.a0.N, ls a0.F.a0.Text, li .i64 a0.F.a1.N, ls a0.F.a1.Text, li .i64 a0.F.a2.N, ls a0.F.a2.Text, li .i64 a0.F.a3.N, ls a0.F.a3.Text])) :: []) (by kernel_rfl) (by kernel_rfl) (by kernel_rfl) ?_
        exact F22_u10_ok n a0 (s5 ++ r7)
    · refine Sim.skip ?_
      refine SimE.blockN ?_
      refine SimE.thenN ?_
      refine Sim.region0 ?_
      refine SimI.run 3 [(4, .one (li .i64 1)), (34, .one (li .i64 1)), (33, .one (li .i64 0))] [] (by kernel_rfl) ?_
      refine SimI.done (by kernel_rfl) ?_
      refine SimE.loopN ?_
      refine SimL.pre (ts := [1, 3, 4]) (os := [1]) [(1, .one (.ptr 1 0)), (3, .one (ls s5)), (4, .one (li .i64 1))] ((1, some (.cells [li .i64 a0.ID, li .u8 a0.Mask, li .i64 a0.At.X, li .i64 a0.At.Y, li .i64 a0.F.a0.N, ls a0.F.a0.Text, li .i64 a0.F.a1.N, ls a0.F.a1.Text, li .i64 a0.F.a2.N, ls a0.F.a2.Text, li .i64 a0.F.a3.N, ls a0.F.a3.Text])) :: []) (by kernel_rfl) (by kernel_rfl) (by kernel_rfl) ?_
      exact F22_u10_ok n a0 s5

def F22 (n : Nat) (a0 : Delta) : Option ByteArray :=
  (F47 n (IntKind.wrap .u64 a0.ID)).bind fun (r1 : ByteArray) =>
  (F47 n (IntKind.wrap .u64 a0.Mask)).bind fun (r2 : ByteArray) =>
  if r1.size + r2.size ≤ 9223372036854775807 then
    if (bitsI .and .u8 a0.Mask 1) != 0 then
      (F47 n (IntKind.wrap .u64 a0.At.X)).bind fun (r3 : ByteArray) =>
      if (r1 ++ r2).size + r3.size ≤ 9223372036854775807 then
        (F47 n (IntKind.wrap .u64 a0.At.Y)).bind fun (r4 : ByteArray) =>
        if ((r1 ++ r2) ++ r3).size + r4.size ≤ 9223372036854775807 then
          F22_j6 n a0 (((r1 ++ r2) ++ r3) ++ r4)
        else none
      else none
    else
      F22_j6 n a0 (r1 ++ r2)
  else none
theorem F22_ok (n : Nat) (a0 : Delta) : ∀ r, F22 n a0 = some r → D 22 [.agg [li .i64 a0.ID, li .u8 a0.Mask, li .i64 a0.At.X, li .i64 a0.At.Y, li .i64 a0.F.a0.N, ls a0.F.a0.Text, li .i64 a0.F.a1.N, ls a0.F.a1.Text, li .i64 a0.F.a2.N, ls a0.F.a2.Text, li .i64 a0.F.a3.N, ls a0.F.a3.Text]] [] = some (F22_e r) := by
  refine fn_to (D := D) (n := n + 8) (nt := 66) (rs := pc22_r) (c := pc22_c38) (L := [(0, .agg [li .i64 a0.ID, li .u8 a0.Mask, li .i64 a0.At.X, li .i64 a0.At.Y, li .i64 a0.F.a0.N, ls a0.F.a0.Text, li .i64 a0.F.a1.N, ls a0.F.a1.Text, li .i64 a0.F.a2.N, ls a0.F.a2.Text, li .i64 a0.F.a3.N, ls a0.F.a3.Text])]) (M := []) (k := 0) rfl rfl rfl rfl rfl rfl ?_
  unfold F22
  refine Sim.seq ?_
  refine Sim.region0 ?_
  refine SimI.run 2 [(2, .one (ls ByteArray.empty)), (1, .one (.ptr 1 0))] [(1, some (.cells [li .i64 a0.ID, li .u8 a0.Mask, li .i64 a0.At.X, li .i64 a0.At.Y, li .i64 a0.F.a0.N, ls a0.F.a0.Text, li .i64 a0.F.a1.N, ls a0.F.a1.Text, li .i64 a0.F.a2.N, ls a0.F.a2.Text, li .i64 a0.F.a3.N, ls a0.F.a3.Text]))] (by kernel_rfl) ?_
  refine SimI.done (by kernel_rfl) ?_
  refine SimE.thenN ?_
  refine Sim.seq ?_
  refine Sim.region0 ?_
  refine SimI.run 3 [(7, .one (li .u64 (IntKind.wrap .u64 a0.ID))), (6, .one (li .i64 a0.ID)), (5, .one (.ptr 1 0))] [] (by kernel_rfl) ?_
  refine SimI.bind (og := F47 n (IntKind.wrap .u64 a0.ID)) { dst := some 8, op := POp.call false [[]] 47 [Operand.tmp 7], guard := none, hints := [(7, Hint.imm)] } (fun r1 => [(8, .one (ls r1))]) (fun r1 => []) (by kernel_rfl) (fun r1 hr => pOp_eff (by kernel_rfl) (by kernel_rfl) (eff_call (ARGS := [.one (li .u64 (IntKind.wrap .u64 a0.ID))]) (by kernel_rfl) (args_clean (by kernel_rfl) args_nil) (F47_ok n (IntKind.wrap .u64 a0.ID) r1 hr) (by kernel_rfl))) (fun r1 => ?_)
  refine SimI.run 3 [(11, .one (li .u64 (IntKind.wrap .u64 a0.Mask))), (10, .one (li .u8 a0.Mask)), (9, .one (.ptr 1 1))] [] (by kernel_rfl) ?_
  refine SimI.bind (og := F47 n (IntKind.wrap .u64 a0.Mask)) { dst := some 12, op := POp.call false [[]] 47 [Operand.tmp 11], guard := none, hints := [(11, Hint.imm)] } (fun r2 => [(12, .one (ls r2))]) (fun r2 => []) (by kernel_rfl) (fun r2 hr => pOp_eff (by kernel_rfl) (by kernel_rfl) (eff_call (ARGS := [.one (li .u64 (IntKind.wrap .u64 a0.Mask))]) (by kernel_rfl) (args_clean (by kernel_rfl) args_nil) (F47_ok n (IntKind.wrap .u64 a0.Mask) r2 hr) (by kernel_rfl))) (fun r2 => ?_)
  refine SimI.guard (c := r1.size + r2.size ≤ 9223372036854775807) { dst := some 13, op := POp.prim (Prim.bin BinOp.add 9 false false) [Operand.tmp 8, Operand.tmp 12], guard := none, hints := [(8, Hint.imm), (12, Hint.imm)] } [(13, .one (ls (r1 ++ r2)))] [] (by kernel_rfl) (fun hc => pOp_eff (by kernel_rfl) (by kernel_rfl) (eff_prim (by kernel_rfl) (pr_addS _ _ _ r1 r2 hc))) ?_
  refine SimI.run 1 [(3, .one (ls (r1 ++ r2)))] [] (by kernel_rfl) ?_
  refine SimI.done (by kernel_rfl) ?_
  refine SimE.thenN ?_
  refine Sim.seq ?_
  refine Sim.seq ?_
  refine Sim.region0 ?_
  refine SimI.run 4 [(17, .one (lb ((bitsI .and .u8 a0.Mask 1) != 0))), (16, .one (li .u8 (bitsI .and .u8 a0.Mask 1))), (15, .one (li .u8 a0.Mask)), (14, .one (.ptr 1 1))] [] (by kernel_rfl) ?_
  refine SimI.done (by kernel_rfl) ?_
  refine SimE.thenN ?_
  refine Sim.cond ((bitsI .and .u8 a0.Mask 1) != 0) (by kernel_rfl) ?_ ?_
  · refine Sim.region0 ?_
    refine SimI.run 5 [(22, .one (li .u64 (IntKind.wrap .u64 a0.At.X))), (21, .one (li .i64 a0.At.X)), (20, .one (.ptr 1 2)), (19, .one (.ptr 1 2)), (18, .one (ls (r1 ++ r2)))] [] (by kernel_rfl) ?_
    refine SimI.bind (og := F47 n (IntKind.wrap .u64 a0.At.X)) { dst := some 23, op := POp.call false [[]] 47 [Operand.tmp 22], guard := none, hints := [(22, Hint.imm)] } (fun r3 => [(23, .one (ls r3))]) (fun r3 => []) (by kernel_rfl) (fun r3 hr => pOp_eff (by kernel_rfl) (by kernel_rfl) (eff_call (ARGS := [.one (li .u64 (IntKind.wrap .u64 a0.At.X))]) (by kernel_rfl) (args_clean (by kernel_rfl) args_nil) (F47_ok n (IntKind.wrap .u64 a0.At.X) r3 hr) (by kernel_rfl))) (fun r3 => ?_)
    refine SimI.guard (c := (r1 ++ r2).size + r3.size ≤ 9223372036854775807) { dst := some 24, op := POp.prim (Prim.bin BinOp.add 9 false false) [Operand.tmp 18, Operand.tmp 23], guard := none, hints := [(18, Hint.imm), (23, Hint.imm)] } [(24, .one (ls ((r1 ++ r2) ++ r3)))] [] (by kernel_rfl) (fun hc => pOp_eff (by kernel_rfl) (by kernel_rfl) (eff_prim (by kernel_rfl) (pr_addS _ _ _ (r1 ++ r2) r3 hc))) ?_
    refine SimI.run 4 [(28, .one (li .u64 (IntKind.wrap .u64 a0.At.Y))), (27, .one (li .i64 a0.At.Y)), (26, .one (.ptr 1 3)), (25, .one (.ptr 1 2))] [] (by kernel_rfl) ?_
    refine SimI.bind (og := F47 n (IntKind.wrap .u64 a0.At.Y)) { dst := some 29, op := POp.call false [[]] 47 [Operand.tmp 28], guard := none, hints := [(28, Hint.imm)] } (fun r4 => [(29, .one (ls r4))]) (fun r4 => []) (by kernel_rfl) (fun r4 hr => pOp_eff (by kernel_rfl) (by kernel_rfl) (eff_call (ARGS := [.one (li .u64 (IntKind.wrap .u64 a0.At.Y))]) (by kernel_rfl) (args_clean (by kernel_rfl) args_nil) (F47_ok n (IntKind.wrap .u64 a0.At.Y) r4 hr) (by kernel_rfl))) (fun r4 => ?_)
    refine SimI.guard (c := ((r1 ++ r2) ++ r3).size + r4.size ≤ 9223372036854775807) { dst := some 30, op := POp.prim (Prim.bin BinOp.add 9 false false) [Operand.tmp 24, Operand.tmp 29], guard := none, hints := [(24, Hint.imm), (29, Hint.imm)] } [(30, .one (ls (((r1 ++ r2) ++ r3) ++ r4)))] [] (by kernel_rfl) (fun hc => pOp_eff (by kernel_rfl) (by kernel_rfl) (eff_prim (by kernel_rfl) (pr_addS _ _ _ ((r1 ++ r2) ++ r3) r4 hc))) ?_
    refine SimI.run 1 [(3, .one (ls (((r1 ++ r2) ++ r3) ++ r4)))] [] (by kernel_rfl) ?_
    refine SimI.done (by kernel_rfl) ?_
    refine SimE.thenN ?_
    refine Sim.pre (ts := [1, 3]) (os := [1]) [(1, .one (.ptr 1 0)), (3, .one (ls (((r1 ++ r2) ++ r3) ++ r4)))] ((1, some (.cells [li .i64 a0.ID, li .u8 a0.Mask, li .i64 a0.At.X, li .i64 a0.At.Y, li .i64 a0.F.a0.N, ls a0.F.a0.Text, li .i64 a0.F.a1.N, ls a0.F.a1.Text, li .i64 a0.F.a2.N, ls a0.F.a2.Text, li .i64 a0.F.a3.N, ls a0.F.a3.Text])) :: []) (by kernel_rfl) (by kernel_rfl) (by kernel_rfl) ?_
    exact F22_j6_ok n a0 (((r1 ++ r2) ++ r3) ++ r4)
  · refine Sim.skip ?_
    refine SimE.thenN ?_
    refine Sim.pre (ts := [1, 3]) (os := [1]) [(1, .one (.ptr 1 0)), (3, .one (ls (r1 ++ r2)))] ((1, some (.cells [li .i64 a0.ID, li .u8 a0.Mask, li .i64 a0.At.X, li .i64 a0.At.Y, li .i64 a0.F.a0.N, ls a0.F.a0.Text, li .i64 a0.F.a1.N, ls a0.F.a1.Text, li .i64 a0.F.a2.N, ls a0.F.a2.Text, li .i64 a0.F.a3.N, ls a0.F.a3.Text])) :: []) (by kernel_rfl) (by kernel_rfl) (by kernel_rfl) ?_
    exact F22_j6_ok n a0 (r1 ++ r2)


-- 72: vedette/vedetteref1.Get
def F72_e : (Int × Int × Int) → PV × List (List Lf) := fun r => (.tup [.one (li .u64 r.1), .one (li .i64 r.2.1), .one (li .i64 r.2.2)], [])
def F72_j10 (n : Nat) (i5 : Int) (i6 : Int) (x8 : Int) : Option (Int × Int × Int) :=
    some (bitsI .or .u64 i5 (shlI .u64 (IntKind.wrap .u64 (bitsI .and .u8 x8 127)) (IntKind.wrap .u64 (IntKind.wrap .i64 (7 * i6)))), IntKind.wrap .i64 (i6 + 1), 0)
theorem F72_j10_ok (n : Nat) (i5 : Int) (i6 : Int) (x8 : Int) (m_l7 : Nat) : Sim Try.prog D (n + 8) pc72_c28 [(5, .one (li .u64 (bitsI .or .u64 i5 (shlI .u64 (IntKind.wrap .u64 (bitsI .and .u8 x8 127)) (IntKind.wrap .u64 (IntKind.wrap .i64 (7 * i6))))))), (6, .one (li .i64 i6))] [] (F72_j10 n i5 i6 x8) (QB 1 (QT Try.prog D (n + 8) pc72_c37 (QL Try.prog D (n + 8) m_l7 pc72_c39 (QB 0 (QT Try.prog D (n + 8) pc72_c45 (QF pc72_r 0 F72_e)))))) := by
    unfold F72_j10
    refine Sim.seq ?_
    refine Sim.region [(5, .one (li .u64 (bitsI .or .u64 i5 (shlI .u64 (IntKind.wrap .u64 (bitsI .and .u8 x8 127)) (IntKind.wrap .u64 (IntKind.wrap .i64 (7 * i6))))))), (6, .one (li .i64 i6))] [] (by kernel_rfl) ?_
    refine SimI.run 6 [(4, .one (li .i64 0)), (3, .one (li .i64 (IntKind.wrap .i64 (i6 + 1)))), (2, .one (li .u64 (bitsI .or .u64 i5 (shlI .u64 (IntKind.wrap .u64 (bitsI .and .u8 x8 127)) (IntKind.wrap .u64 (IntKind.wrap .i64 (7 * i6))))))), (42, .one (li .i64 (IntKind.wrap .i64 (i6 + 1)))), (41, .one (li .i64 i6)), (40, .one (li .u64 (bitsI .or .u64 i5 (shlI .u64 (IntKind.wrap .u64 (bitsI .and .u8 x8 127)) (IntKind.wrap .u64 (IntKind.wrap .i64 (7 * i6)))))))] [] (by kernel_rfl) ?_
    refine SimI.done (by kernel_rfl) ?_
    refine SimE.thenN ?_
    refine Sim.ret ?_
    refine SimE.blockR ?_
    refine SimE.thenR ?_
    refine SimE.loopR ?_
    refine SimE.blockR ?_
    refine SimE.thenR ?_
    exact SimE.fin (by kernel_rfl)

def F72_j9 (n : Nat) (i5 : Int) (i6 : Int) (x8 : Int) (rec_l7 : Int → Int → Option (Int × Int × Int)) : Option (Int × Int × Int) :=
    if ¬ (IntKind.wrap .u64 (IntKind.wrap .i64 (7 * i6)) < 0) then
      if decide (x8 < 128) then
        if x8 == 0 then
          if decide ((0 : Int) < i6) then
            some (0, 0, 11)
          else
            F72_j10 n i5 i6 x8
        else
          F72_j10 n i5 i6 x8
      else
        rec_l7 (bitsI .or .u64 i5 (shlI .u64 (IntKind.wrap .u64 (bitsI .and .u8 x8 127)) (IntKind.wrap .u64 (IntKind.wrap .i64 (7 * i6))))) (IntKind.wrap .i64 (i6 + 1))
    else none
theorem F72_j9_ok (n : Nat) (a0 : ByteArray) (i5 : Int) (i6 : Int) (x8 : Int) (rec_l7 : Int → Int → Option (Int × Int × Int)) (m_l7 : Nat) (ih_l7 : ∀ (i5 : Int) (i6 : Int), SimL Try.prog D (n + 8) m_l7 pc72_c39 [(0, .one (ls a0)), (5, .one (li .u64 i5)), (6, .one (li .i64 i6))] [] (rec_l7 i5 i6) (QB 0 (QT Try.prog D (n + 8) pc72_c45 (QF pc72_r 0 F72_e)))) : Sim Try.prog D (n + 8) pc72_c33 [(0, .one (ls a0)), (5, .one (li .u64 i5)), (6, .one (li .i64 i6)), (7, .one (li .u8 x8))] [] (F72_j9 n i5 i6 x8 rec_l7) (QB 1 (QT Try.prog D (n + 8) pc72_c37 (QL Try.prog D (n + 8) m_l7 pc72_c39 (QB 0 (QT Try.prog D (n + 8) pc72_c45 (QF pc72_r 0 F72_e)))))) := by
    unfold F72_j9
    refine Sim.seq ?_
    refine Sim.region [(0, .one (ls a0)), (5, .one (li .u64 i5)), (6, .one (li .i64 i6)), (7, .one (li .u8 x8))] [] (by kernel_rfl) ?_
    refine SimI.run 7 [(29, .one (li .u64 (IntKind.wrap .u64 (IntKind.wrap .i64 (7 * i6))))), (28, .one (li .i64 (IntKind.wrap .i64 (7 * i6)))), (27, .one (li .i64 i6)), (26, .one (li .u64 (IntKind.wrap .u64 (bitsI .and .u8 x8 127)))), (25, .one (li .u8 (bitsI .and .u8 x8 127))), (24, .one (li .u8 x8)), (23, .one (li .u64 i5))] [] (by kernel_rfl) ?_
    refine SimI.guard (c := ¬ (IntKind.wrap .u64 (IntKind.wrap .i64 (7 * i6)) < 0)) { dst := some 30, op := POp.prim (Prim.bin BinOp.shl 70 false false) [Operand.tmp 26, Operand.tmp 29], guard := none, hints := [] } [(30, .one (li .u64 (shlI .u64 (IntKind.wrap .u64 (bitsI .and .u8 x8 127)) (IntKind.wrap .u64 (IntKind.wrap .i64 (7 * i6))))))] [] (by kernel_rfl) (fun hc => pOp_eff (by kernel_rfl) (by kernel_rfl) (eff_prim (by kernel_rfl) (pr_shl _ _ _ .u64 .u64 (IntKind.wrap .u64 (bitsI .and .u8 x8 127)) (IntKind.wrap .u64 (IntKind.wrap .i64 (7 * i6))) hc))) ?_
    refine SimI.run 2 [(5, .one (li .u64 (bitsI .or .u64 i5 (shlI .u64 (IntKind.wrap .u64 (bitsI .and .u8 x8 127)) (IntKind.wrap .u64 (IntKind.wrap .i64 (7 * i6))))))), (31, .one (li .u64 (bitsI .or .u64 i5 (shlI .u64 (IntKind.wrap .u64 (bitsI .and .u8 x8 127)) (IntKind.wrap .u64 (IntKind.wrap .i64 (7 * i6)))))))] [] (by kernel_rfl) ?_
    refine SimI.done (by kernel_rfl) ?_
    refine SimE.thenN ?_
    refine Sim.seq ?_
    refine Sim.region0 ?_
    refine SimI.run 2 [(33, .one (lb (decide (x8 < 128)))), (32, .one (li .u8 x8))] [] (by kernel_rfl) ?_
    refine SimI.done (by kernel_rfl) ?_
    refine SimE.thenN ?_
    refine Sim.cond (decide (x8 < 128)) (by kernel_rfl) ?_ ?_
    · refine Sim.seq ?_
      refine Sim.seq ?_
      refine Sim.region0 ?_
      refine SimI.run 3 [(36, .one (lb (x8 == 0))), (35, .one (lb (x8 == 0))), (34, .one (li .u8 x8))] [] (by kernel_rfl) ?_
      refine SimI.split 36 (x8 == 0) (by kernel_rfl) ?_ ?_
      · refine SimI.run 3 [(39, .one (lb (decide ((0 : Int) < i6)))), (38, .one (lb (decide ((0 : Int) < i6)))), (37, .one (li .i64 i6))] [] (by kernel_rfl) ?_
        refine SimI.done (by kernel_rfl) ?_
        refine SimE.thenN ?_
        refine Sim.cond (decide ((0 : Int) < i6)) (by kernel_rfl) ?_ ?_
        · refine Sim.seq ?_
          refine Sim.region0 ?_
          refine SimI.run 3 [(4, .one (li .i64 11)), (3, .one (li .i64 0)), (2, .one (li .u64 0))] [] (by kernel_rfl) ?_
          refine SimI.done (by kernel_rfl) ?_
          refine SimE.thenN ?_
          refine Sim.ret ?_
          refine SimE.thenR ?_
          refine SimE.blockR ?_
          refine SimE.thenR ?_
          refine SimE.loopR ?_
          refine SimE.blockR ?_
          refine SimE.thenR ?_
          exact SimE.fin (by kernel_rfl)
        · refine Sim.skip ?_
          refine SimE.thenN ?_
          refine Sim.pre (ts := [5, 6]) (os := []) [(5, .one (li .u64 (bitsI .or .u64 i5 (shlI .u64 (IntKind.wrap .u64 (bitsI .and .u8 x8 127)) (IntKind.wrap .u64 (IntKind.wrap .i64 (7 * i6))))))), (6, .one (li .i64 i6))] [] (by kernel_rfl) (by kernel_rfl) (by kernel_rfl) ?_
          exact F72_j10_ok n i5 i6 x8 m_l7
      · refine SimI.run 3 [(39, .one (lb false)), (38, .tup []), (37, .tup [])] [] (by kernel_rfl) ?_
        refine SimI.done (by kernel_rfl) ?_
        refine SimE.thenN ?_
        refine Sim.condF (by kernel_rfl) ?_
        refine Sim.skip ?_
        refine SimE.thenN ?_
        refine Sim.pre (ts := [5, 6]) (os := []) [(5, .one (li .u64 (bitsI .or .u64 i5 (shlI .u64 (IntKind.wrap .u64 (bitsI .and .u8 x8 127)) (IntKind.wrap .u64 (IntKind.wrap .i64 (7 * i6))))))), (6, .one (li .i64 i6))] [] (by kernel_rfl) (by kernel_rfl) (by kernel_rfl) ?_
        exact F72_j10_ok n i5 i6 x8 m_l7
    · refine Sim.skip ?_
      refine SimE.blockN ?_
      refine SimE.thenN ?_
      refine Sim.region0 ?_
      refine SimI.run 3 [(6, .one (li .i64 (IntKind.wrap .i64 (i6 + 1)))), (13, .one (li .i64 (IntKind.wrap .i64 (i6 + 1)))), (12, .one (li .i64 i6))] [] (by kernel_rfl) ?_
      refine SimI.done (by kernel_rfl) ?_
      refine SimE.loopN ?_
      refine SimL.pre (ts := [0, 5, 6]) (os := []) [(0, .one (ls a0)), (5, .one (li .u64 (bitsI .or .u64 i5 (shlI .u64 (IntKind.wrap .u64 (bitsI .and .u8 x8 127)) (IntKind.wrap .u64 (IntKind.wrap .i64 (7 * i6))))))), (6, .one (li .i64 (IntKind.wrap .i64 (i6 + 1))))] [] (by kernel_rfl) (by kernel_rfl) (by kernel_rfl) ?_
      exact ih_l7 (bitsI .or .u64 i5 (shlI .u64 (IntKind.wrap .u64 (bitsI .and .u8 x8 127)) (IntKind.wrap .u64 (IntKind.wrap .i64 (7 * i6))))) (IntKind.wrap .i64 (i6 + 1))

def F72_l7 (n : Nat) (a0 : ByteArray) : Nat → Int → Int → Option (Int × Int × Int)
  | 0, _, _ => none
  | m + 1, i5, i6 =>
    if decide (i6 < (a0.size : Int)) then
      (ix (bytesL a0) i6).bind fun (x8 : Int) =>
      if i6 == 9 then
        if decide ((1 : Int) < x8) then
          some (0, 0, 11)
        else
          F72_j9 n i5 i6 x8 (F72_l7 n a0 m)
      else
        F72_j9 n i5 i6 x8 (F72_l7 n a0 m)
    else
      some (0, 0, 10)
theorem F72_l7_ok (n : Nat) (a0 : ByteArray) : ∀ (m : Nat) (i5 : Int) (i6 : Int), SimL Try.prog D (n + 8) m pc72_c39 [(0, .one (ls a0)), (5, .one (li .u64 i5)), (6, .one (li .i64 i6))] [] (F72_l7 n a0 m i5 i6) (QB 0 (QT Try.prog D (n + 8) pc72_c45 (QF pc72_r 0 F72_e))) := by
  intro m_l7
  induction m_l7 with
  | zero => intro i5 i6; exact SimL.zero'  rfl
  | succ m_l7 ih_l7 =>
    intro i5 i6
    refine SimL.succ ?_
    unfold F72_l7
    refine Sim.seq ?_
    refine Sim.seq ?_
    refine Sim.region [(0, .one (ls a0)), (5, .one (li .u64 i5)), (6, .one (li .i64 i6))] [] (by kernel_rfl) ?_
    refine SimI.run 4 [(11, .one (lb (decide (i6 < (a0.size : Int))))), (10, .one (li .i64 (a0.size : Int))), (9, .one (ls a0)), (8, .one (li .i64 i6))] [] (by kernel_rfl) ?_
    refine SimI.done (by kernel_rfl) ?_
    refine SimE.thenN ?_
    refine Sim.cond (decide (i6 < (a0.size : Int))) (by kernel_rfl) ?_ ?_
    · refine Sim.skip ?_
      refine SimE.thenN ?_
      refine Sim.seq ?_
      refine Sim.block ?_
      refine Sim.seq ?_
      refine Sim.region0 ?_
      refine SimI.run 2 [(15, .one (li .i64 i6)), (14, .one (ls a0))] [] (by kernel_rfl) ?_
      refine SimI.bind (og := ix (bytesL a0) i6) { dst := some 16, op := POp.prim (Prim.index 9) [Operand.tmp 14, Operand.tmp 15], guard := none, hints := [] } (fun x8 => [(16, .one (li .u8 x8))]) (fun x8 => []) (by kernel_rfl) (fun x8 hr => pOp_eff (by kernel_rfl) (by kernel_rfl) (eff_prim (by kernel_rfl) (pr_index (s := a0) (k := .i64) (i := i6) (b := x8) Try.underlying9 hr))) (fun x8 => ?_)
      refine SimI.run 1 [(7, .one (li .u8 x8))] [] (by kernel_rfl) ?_
      refine SimI.done (by kernel_rfl) ?_
      refine SimE.thenN ?_
      refine Sim.seq ?_
      refine Sim.seq ?_
      refine Sim.region0 ?_
      refine SimI.run 3 [(19, .one (lb (i6 == 9))), (18, .one (lb (i6 == 9))), (17, .one (li .i64 i6))] [] (by kernel_rfl) ?_
      refine SimI.split 19 (i6 == 9) (by kernel_rfl) ?_ ?_
      · refine SimI.run 3 [(22, .one (lb (decide ((1 : Int) < x8)))), (21, .one (lb (decide ((1 : Int) < x8)))), (20, .one (li .u8 x8))] [] (by kernel_rfl) ?_
        refine SimI.done (by kernel_rfl) ?_
        refine SimE.thenN ?_
        refine Sim.cond (decide ((1 : Int) < x8)) (by kernel_rfl) ?_ ?_
        · refine Sim.seq ?_
          refine Sim.region0 ?_
          refine SimI.run 3 [(4, .one (li .i64 11)), (3, .one (li .i64 0)), (2, .one (li .u64 0))] [] (by kernel_rfl) ?_
          refine SimI.done (by kernel_rfl) ?_
          refine SimE.thenN ?_
          refine Sim.ret ?_
          refine SimE.thenR ?_
          refine SimE.blockR ?_
          refine SimE.thenR ?_
          refine SimE.loopR ?_
          refine SimE.blockR ?_
          refine SimE.thenR ?_
          exact SimE.fin (by kernel_rfl)
        · refine Sim.skip ?_
          refine SimE.thenN ?_
          refine Sim.pre (ts := [0, 5, 6, 7]) (os := []) [(0, .one (ls a0)), (5, .one (li .u64 i5)), (6, .one (li .i64 i6)), (7, .one (li .u8 x8))] [] (by kernel_rfl) (by kernel_rfl) (by kernel_rfl) ?_
          exact F72_j9_ok n a0 i5 i6 x8 (F72_l7 n a0 m_l7) m_l7 ih_l7
      · refine SimI.run 3 [(22, .one (lb false)), (21, .tup []), (20, .tup [])] [] (by kernel_rfl) ?_
        refine SimI.done (by kernel_rfl) ?_
        refine SimE.thenN ?_
        refine Sim.condF (by kernel_rfl) ?_
        refine Sim.skip ?_
        refine SimE.thenN ?_
        refine Sim.pre (ts := [0, 5, 6, 7]) (os := []) [(0, .one (ls a0)), (5, .one (li .u64 i5)), (6, .one (li .i64 i6)), (7, .one (li .u8 x8))] [] (by kernel_rfl) (by kernel_rfl) (by kernel_rfl) ?_
        exact F72_j9_ok n a0 i5 i6 x8 (F72_l7 n a0 m_l7) m_l7 ih_l7
    · refine Sim.exit ?_
      refine SimE.thenX ?_
      refine SimE.loopX ?_
      refine SimE.blockX ?_
      refine SimE.thenN ?_
      refine Sim.seq ?_
      refine Sim.region0 ?_
      refine SimI.run 3 [(4, .one (li .i64 10)), (3, .one (li .i64 0)), (2, .one (li .u64 0))] [] (by kernel_rfl) ?_
      refine SimI.done (by kernel_rfl) ?_
      refine SimE.thenN ?_
      refine Sim.ret ?_
      exact SimE.fin (by kernel_rfl)

def F72 (n : Nat) (a0 : ByteArray) : Option (Int × Int × Int) :=
  F72_l7 n a0 (n + 8) 0 0
theorem F72_ok (n : Nat) (a0 : ByteArray) : ∀ r, F72 n a0 = some r → D 72 [.one (ls a0)] [] = some (F72_e r) := by
  refine fn_to (D := D) (n := n + 8) (nt := 43) (rs := pc72_r) (c := pc72_c48) (L := [(0, .one (ls a0))]) (M := []) (k := 0) rfl rfl rfl rfl rfl rfl ?_
  unfold F72
  refine Sim.seq ?_
  refine Sim.region0 ?_
  refine SimI.run 3 [(4, .one (li .i64 0)), (3, .one (li .i64 0)), (2, .one (li .u64 0))] [] (by kernel_rfl) ?_
  refine SimI.done (by kernel_rfl) ?_
  refine SimE.thenN ?_
  refine Sim.seq ?_
  refine Sim.region0 ?_
  refine SimI.run 1 [(5, .one (li .u64 0))] [] (by kernel_rfl) ?_
  refine SimI.done (by kernel_rfl) ?_
  refine SimE.thenN ?_
  refine Sim.seq ?_
  refine Sim.seq ?_
  refine Sim.region0 ?_
  refine SimI.run 1 [(6, .one (li .i64 0))] [] (by kernel_rfl) ?_
  refine SimI.done (by kernel_rfl) ?_
  refine SimE.thenN ?_
  refine Sim.block ?_
  refine Sim.loop ?_
  refine SimL.pre (ts := [0, 5, 6]) (os := []) [(0, .one (ls a0)), (5, .one (li .u64 0)), (6, .one (li .i64 0))] [] (by kernel_rfl) (by kernel_rfl) (by kernel_rfl) ?_
  exact F72_l7_ok n a0 (n + 8) 0 0


-- 54: vedette/vedetteref1.Texts
def F54_e : (ByteArray × Int × Int) → PV × List (List Lf) := fun r => (.tup [.one (ls r.1), .one (li .i64 r.2.1), .one (li .i64 r.2.2)], [])
def F54 (n : Nat) (a0 : ByteArray) (a1 : Int) : Option (ByteArray × Int × Int) :=
  (F72 n a0).bind fun (r1 : (Int × Int × Int)) =>
  if r1.2.2 != 0 then
    some (ByteArray.empty, 0, r1.2.2)
  else
    if decide (IntKind.wrap .u64 (imax 0 a1) < r1.1) then
      some (ByteArray.empty, 0, 13)
    else
      if decide (IntKind.wrap .u64 (IntKind.wrap .i64 ((a0.size : Int) - r1.2.1)) < r1.1) then
        some (ByteArray.empty, 0, 10)
      else
        if 0 ≤ (r1.2.1 : Int) ∧ (r1.2.1 : Int) ≤ IntKind.wrap .i64 (r1.2.1 + IntKind.wrap .i64 r1.1) ∧ IntKind.wrap .i64 (r1.2.1 + IntKind.wrap .i64 r1.1) ≤ (a0.size : Int) then
          some (a0.extract r1.2.1.toNat (IntKind.wrap .i64 (r1.2.1 + IntKind.wrap .i64 r1.1)).toNat, IntKind.wrap .i64 (r1.2.1 + IntKind.wrap .i64 r1.1), 0)
        else none
theorem F54_ok (n : Nat) (a0 : ByteArray) (a1 : Int) : ∀ r, F54 n a0 a1 = some r → D 54 [.one (ls a0), .one (li .i64 a1)] [] = some (F54_e r) := by
  refine fn_to (D := D) (n := n + 8) (nt := 45) (rs := pc54_r) (c := pc54_c28) (L := [(0, .one (ls a0)), (1, .one (li .i64 a1))]) (M := []) (k := 0) rfl rfl rfl rfl rfl rfl ?_
  unfold F54
  refine Sim.seq ?_
  refine Sim.region0 ?_
  refine SimI.run 3 [(6, .one (li .i64 0)), (5, .one (li .i64 0)), (4, .one (ls ByteArray.empty))] [] (by kernel_rfl) ?_
  refine SimI.done (by kernel_rfl) ?_
  refine SimE.thenN ?_
  refine Sim.seq ?_
  refine Sim.region0 ?_
  refine SimI.run 1 [(11, .one (ls a0))] [] (by kernel_rfl) ?_
  refine SimI.bind (og := F72 n a0) { dst := some 12, op := POp.call true [[]] 72 [Operand.tmp 11], guard := none, hints := [] } (fun r1 => [(12, .tup [.one (li .u64 r1.1), .one (li .i64 r1.2.1), .one (li .i64 r1.2.2)])]) (fun r1 => []) (by kernel_rfl) (fun r1 hr => pOp_eff (by kernel_rfl) (by kernel_rfl) (eff_call (ARGS := [.one (ls a0)]) (by kernel_rfl) (args_clean (by kernel_rfl) args_nil) (F72_ok n a0 r1 hr) (by kernel_rfl))) (fun r1 => ?_)
  refine SimI.run 7 [(9, .one (li .i64 r1.2.2)), (8, .one (li .i64 r1.2.1)), (7, .one (li .u64 r1.1)), (15, .one (li .i64 r1.2.2)), (14, .one (li .i64 r1.2.1)), (13, .one (li .u64 r1.1)), (10, .tup [.one (li .u64 r1.1), .one (li .i64 r1.2.1), .one (li .i64 r1.2.2)])] [] (by kernel_rfl) ?_
  refine SimI.done (by kernel_rfl) ?_
  refine SimE.thenN ?_
  refine Sim.seq ?_
  refine Sim.block ?_
  refine Sim.seq ?_
  refine Sim.region0 ?_
  refine SimI.run 3 [(16, .one (lb (r1.2.2 != 0))), (18, .one (lb (r1.2.2 != 0))), (17, .one (li .i64 r1.2.2))] [] (by kernel_rfl) ?_
  refine SimI.done (by kernel_rfl) ?_
  refine SimE.thenN ?_
  refine Sim.cond (r1.2.2 != 0) (by kernel_rfl) ?_ ?_
  · refine Sim.seq ?_
    refine Sim.region0 ?_
    refine SimI.run 4 [(6, .one (li .i64 r1.2.2)), (5, .one (li .i64 0)), (4, .one (ls ByteArray.empty)), (19, .one (li .i64 r1.2.2))] [] (by kernel_rfl) ?_
    refine SimI.done (by kernel_rfl) ?_
    refine SimE.thenN ?_
    refine Sim.ret ?_
    refine SimE.blockR ?_
    refine SimE.thenR ?_
    exact SimE.fin (by kernel_rfl)
  · refine Sim.seq ?_
    refine Sim.region0 ?_
    refine SimI.run 6 [(20, .one (lb (decide (IntKind.wrap .u64 (imax 0 a1) < r1.1)))), (25, .one (lb (decide (IntKind.wrap .u64 (imax 0 a1) < r1.1)))), (24, .one (li .u64 (IntKind.wrap .u64 (imax 0 a1)))), (23, .one (li .i64 (imax 0 a1))), (22, .one (li .i64 a1)), (21, .one (li .u64 r1.1))] [] (by kernel_rfl) ?_
    refine SimI.done (by kernel_rfl) ?_
    refine SimE.thenN ?_
    refine Sim.cond (decide (IntKind.wrap .u64 (imax 0 a1) < r1.1)) (by kernel_rfl) ?_ ?_
    · refine Sim.seq ?_
      refine Sim.region0 ?_
      refine SimI.run 3 [(6, .one (li .i64 13)), (5, .one (li .i64 0)), (4, .one (ls ByteArray.empty))] [] (by kernel_rfl) ?_
      refine SimI.done (by kernel_rfl) ?_
      refine SimE.thenN ?_
      refine Sim.ret ?_
      refine SimE.blockR ?_
      refine SimE.thenR ?_
      exact SimE.fin (by kernel_rfl)
    · refine Sim.seq ?_
      refine Sim.region0 ?_
      refine SimI.run 8 [(26, .one (lb (decide (IntKind.wrap .u64 (IntKind.wrap .i64 ((a0.size : Int) - r1.2.1)) < r1.1)))), (33, .one (lb (decide (IntKind.wrap .u64 (IntKind.wrap .i64 ((a0.size : Int) - r1.2.1)) < r1.1)))), (32, .one (li .u64 (IntKind.wrap .u64 (IntKind.wrap .i64 ((a0.size : Int) - r1.2.1))))), (31, .one (li .i64 (IntKind.wrap .i64 ((a0.size : Int) - r1.2.1)))), (30, .one (li .i64 r1.2.1)), (29, .one (li .i64 (a0.size : Int))), (28, .one (ls a0)), (27, .one (li .u64 r1.1))] [] (by kernel_rfl) ?_
      refine SimI.done (by kernel_rfl) ?_
      refine SimE.thenN ?_
      refine Sim.cond (decide (IntKind.wrap .u64 (IntKind.wrap .i64 ((a0.size : Int) - r1.2.1)) < r1.1)) (by kernel_rfl) ?_ ?_
      · refine Sim.seq ?_
        refine Sim.region0 ?_
        refine SimI.run 3 [(6, .one (li .i64 10)), (5, .one (li .i64 0)), (4, .one (ls ByteArray.empty))] [] (by kernel_rfl) ?_
        refine SimI.done (by kernel_rfl) ?_
        refine SimE.thenN ?_
        refine Sim.ret ?_
        refine SimE.blockR ?_
        refine SimE.thenR ?_
        exact SimE.fin (by kernel_rfl)
      · refine Sim.skip ?_
        refine SimE.blockN ?_
        refine SimE.thenN ?_
        refine Sim.seq ?_
        refine Sim.region0 ?_
        refine SimI.run 6 [(39, .one (li .i64 (IntKind.wrap .i64 (r1.2.1 + IntKind.wrap .i64 r1.1)))), (38, .one (li .i64 (IntKind.wrap .i64 r1.1))), (37, .one (li .u64 r1.1)), (36, .one (li .i64 r1.2.1)), (35, .one (li .i64 r1.2.1)), (34, .one (ls a0))] [] (by kernel_rfl) ?_
        refine SimI.guard (c := 0 ≤ (r1.2.1 : Int) ∧ (r1.2.1 : Int) ≤ IntKind.wrap .i64 (r1.2.1 + IntKind.wrap .i64 r1.1) ∧ IntKind.wrap .i64 (r1.2.1 + IntKind.wrap .i64 r1.1) ≤ (a0.size : Int)) { dst := some 40, op := POp.prim (Prim.slice 9 true true) [Operand.tmp 34, Operand.tmp 35, Operand.tmp 39], guard := none, hints := [] } [(40, .one (ls (a0.extract r1.2.1.toNat (IntKind.wrap .i64 (r1.2.1 + IntKind.wrap .i64 r1.1)).toNat)))] [] (by kernel_rfl) (fun hc => pOp_eff (by kernel_rfl) (by kernel_rfl) (eff_prim (by kernel_rfl) (pr_cutS (s := a0) (k := .i64) (l := .i64) (a := r1.2.1) (b := IntKind.wrap .i64 (r1.2.1 + IntKind.wrap .i64 r1.1)) Try.underlying9 hc))) ?_
        refine SimI.run 7 [(6, .one (li .i64 0)), (5, .one (li .i64 (IntKind.wrap .i64 (r1.2.1 + IntKind.wrap .i64 r1.1)))), (4, .one (ls (a0.extract r1.2.1.toNat (IntKind.wrap .i64 (r1.2.1 + IntKind.wrap .i64 r1.1)).toNat))), (44, .one (li .i64 (IntKind.wrap .i64 (r1.2.1 + IntKind.wrap .i64 r1.1)))), (43, .one (li .i64 (IntKind.wrap .i64 r1.1))), (42, .one (li .u64 r1.1)), (41, .one (li .i64 r1.2.1))] [] (by kernel_rfl) ?_
        refine SimI.done (by kernel_rfl) ?_
        refine SimE.thenN ?_
        refine Sim.ret ?_
        exact SimE.fin (by kernel_rfl)


-- 73: vedette/vedetteref1.Zag
def F73_e : Int → PV × List (List Lf) := fun r => (.one (li .i64 r), [])
def F73 (n : Nat) (a0 : Int) : Option Int :=
  some (bitsI .xor .i64 (IntKind.wrap .i64 (shrI .u64 a0 1)) (IntKind.wrap .i64 (0 - (IntKind.wrap .i64 (bitsI .and .u64 a0 1)))))
theorem F73_ok (n : Nat) (a0 : Int) : ∀ r, F73 n a0 = some r → D 73 [.one (li .u64 a0)] [] = some (F73_e r) := by
  refine fn_to (D := D) (n := n + 8) (nt := 11) (rs := pc73_r) (c := pc73_c5) (L := [(0, .one (li .u64 a0))]) (M := []) (k := 0) rfl rfl rfl rfl rfl rfl ?_
  unfold F73
  refine Sim.seq ?_
  refine Sim.region0 ?_
  refine SimI.run 1 [(2, .one (li .i64 0))] [] (by kernel_rfl) ?_
  refine SimI.done (by kernel_rfl) ?_
  refine SimE.thenN ?_
  refine Sim.seq ?_
  refine Sim.region0 ?_
  refine SimI.run 9 [(2, .one (li .i64 (bitsI .xor .i64 (IntKind.wrap .i64 (shrI .u64 a0 1)) (IntKind.wrap .i64 (0 - (IntKind.wrap .i64 (bitsI .and .u64 a0 1))))))), (10, .one (li .i64 (bitsI .xor .i64 (IntKind.wrap .i64 (shrI .u64 a0 1)) (IntKind.wrap .i64 (0 - (IntKind.wrap .i64 (bitsI .and .u64 a0 1))))))), (9, .one (li .i64 (IntKind.wrap .i64 (0 - (IntKind.wrap .i64 (bitsI .and .u64 a0 1)))))), (8, .one (li .i64 (IntKind.wrap .i64 (bitsI .and .u64 a0 1)))), (7, .one (li .u64 (bitsI .and .u64 a0 1))), (6, .one (li .u64 a0)), (5, .one (li .i64 (IntKind.wrap .i64 (shrI .u64 a0 1)))), (4, .one (li .u64 (shrI .u64 a0 1))), (3, .one (li .u64 a0))] [] (by kernel_rfl) ?_
  refine SimI.done (by kernel_rfl) ?_
  refine SimE.thenN ?_
  refine Sim.ret ?_
  exact SimE.fin (by kernel_rfl)


-- 55: vedette/vedetteref1.Ints
def F55_e : (Int × Int × Int) → PV × List (List Lf) := fun r => (.tup [.one (li .i64 r.1), .one (li .i64 r.2.1), .one (li .i64 r.2.2)], [])
def F55 (n : Nat) (a0 : ByteArray) : Option (Int × Int × Int) :=
  (F72 n a0).bind fun (r1 : (Int × Int × Int)) =>
  (F73 n r1.1).bind fun (r2 : Int) =>
  some (r2, r1.2.1, r1.2.2)
theorem F55_ok (n : Nat) (a0 : ByteArray) : ∀ r, F55 n a0 = some r → D 55 [.one (ls a0)] [] = some (F55_e r) := by
  refine fn_to (D := D) (n := n + 8) (nt := 18) (rs := pc55_r) (c := pc55_c7) (L := [(0, .one (ls a0))]) (M := []) (k := 0) rfl rfl rfl rfl rfl rfl ?_
  unfold F55
  refine Sim.seq ?_
  refine Sim.region0 ?_
  refine SimI.run 3 [(4, .one (li .i64 0)), (3, .one (li .i64 0)), (2, .one (li .i64 0))] [] (by kernel_rfl) ?_
  refine SimI.done (by kernel_rfl) ?_
  refine SimE.thenN ?_
  refine Sim.seq ?_
  refine Sim.region0 ?_
  refine SimI.run 1 [(9, .one (ls a0))] [] (by kernel_rfl) ?_
  refine SimI.bind (og := F72 n a0) { dst := some 10, op := POp.call true [[]] 72 [Operand.tmp 9], guard := none, hints := [] } (fun r1 => [(10, .tup [.one (li .u64 r1.1), .one (li .i64 r1.2.1), .one (li .i64 r1.2.2)])]) (fun r1 => []) (by kernel_rfl) (fun r1 hr => pOp_eff (by kernel_rfl) (by kernel_rfl) (eff_call (ARGS := [.one (ls a0)]) (by kernel_rfl) (args_clean (by kernel_rfl) args_nil) (F72_ok n a0 r1 hr) (by kernel_rfl))) (fun r1 => ?_)
  refine SimI.run 7 [(7, .one (li .i64 r1.2.2)), (6, .one (li .i64 r1.2.1)), (5, .one (li .u64 r1.1)), (13, .one (li .i64 r1.2.2)), (12, .one (li .i64 r1.2.1)), (11, .one (li .u64 r1.1)), (8, .tup [.one (li .u64 r1.1), .one (li .i64 r1.2.1), .one (li .i64 r1.2.2)])] [] (by kernel_rfl) ?_
  refine SimI.done (by kernel_rfl) ?_
  refine SimE.thenN ?_
  refine Sim.seq ?_
  refine Sim.region0 ?_
  refine SimI.run 1 [(14, .one (li .u64 r1.1))] [] (by kernel_rfl) ?_
  refine SimI.bind (og := F73 n r1.1) { dst := some 15, op := POp.call true [[]] 73 [Operand.tmp 14], guard := none, hints := [] } (fun r2 => [(15, .one (li .i64 r2))]) (fun r2 => []) (by kernel_rfl) (fun r2 hr => pOp_eff (by kernel_rfl) (by kernel_rfl) (eff_call (ARGS := [.one (li .u64 r1.1)]) (by kernel_rfl) (args_clean (by kernel_rfl) args_nil) (F73_ok n r1.1 r2 hr) (by kernel_rfl))) (fun r2 => ?_)
  refine SimI.run 5 [(4, .one (li .i64 r1.2.2)), (3, .one (li .i64 r1.2.1)), (2, .one (li .i64 r2)), (17, .one (li .i64 r1.2.2)), (16, .one (li .i64 r1.2.1))] [] (by kernel_rfl) ?_
  refine SimI.done (by kernel_rfl) ?_
  refine SimE.thenN ?_
  refine Sim.ret ?_
  exact SimE.fin (by kernel_rfl)


end Go.Proofs.Ythmbegagkgdopaa
