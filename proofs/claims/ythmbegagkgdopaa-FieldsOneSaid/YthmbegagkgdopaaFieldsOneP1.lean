/-
  Functions of the program as functions of Lean. No condition.
-/
import Derived.Test.YthmbegagkgdopaaFieldsOneP0
namespace Go.Proofs.Ythmbegagkgdopaa
open Go Go.Rx
set_option maxRecDepth 100000
set_option linter.unusedVariables false
set_option linter.unusedSimpArgs false
set_option linter.unnecessarySimpa false
-- 16: vedette/vedettelaw6.fewDelta
def F16_e : Bool → PV × List (List Lf) := fun r => (.one (lb r), [])
def F16 (n : Nat) (a0 : Delta) : Option Bool :=
  (F17 n a0.F.a0).bind fun (r1 : Bool) =>
  if !(r1) then
    some false
  else
    (F17 n a0.F.a1).bind fun (r2 : Bool) =>
    if !(r2) then
      some false
    else
      (F17 n a0.F.a2).bind fun (r3 : Bool) =>
      if !(r3) then
        some false
      else
        (F17 n a0.F.a3).bind fun (r4 : Bool) =>
        if !(r4) then
          some false
        else
          some true
theorem F16_ok (n : Nat) (a0 : Delta) : ∀ r, F16 n a0 = some r → D 16 [.agg [li .i64 a0.ID, li .u8 a0.Mask, li .i64 a0.At.X, li .i64 a0.At.Y, li .i64 a0.F.a0.N, ls a0.F.a0.Text, li .i64 a0.F.a1.N, ls a0.F.a1.Text, li .i64 a0.F.a2.N, ls a0.F.a2.Text, li .i64 a0.F.a3.N, ls a0.F.a3.Text]] [] = some (F16_e r) := by
  refine fn_to (D := D) (n := n + 8) (nt := 14) (rs := pc16_r) (c := pc16_c26) (L := [(0, .agg [li .i64 a0.ID, li .u8 a0.Mask, li .i64 a0.At.X, li .i64 a0.At.Y, li .i64 a0.F.a0.N, ls a0.F.a0.Text, li .i64 a0.F.a1.N, ls a0.F.a1.Text, li .i64 a0.F.a2.N, ls a0.F.a2.Text, li .i64 a0.F.a3.N, ls a0.F.a3.Text])]) (M := []) (k := 0) rfl rfl rfl rfl rfl rfl ?_
  unfold F16
  refine Sim.seq ?_
  refine Sim.region0 ?_
  refine SimI.run 2 [(2, .one (lb false)), (1, .one (.ptr 1 0))] [(1, some (.cells [li .i64 a0.ID, li .u8 a0.Mask, li .i64 a0.At.X, li .i64 a0.At.Y, li .i64 a0.F.a0.N, ls a0.F.a0.Text, li .i64 a0.F.a1.N, ls a0.F.a1.Text, li .i64 a0.F.a2.N, ls a0.F.a2.Text, li .i64 a0.F.a3.N, ls a0.F.a3.Text]))] (by kernel_rfl) ?_
  refine SimI.done (by kernel_rfl) ?_
  refine SimE.thenN ?_
  refine Sim.seq ?_
  refine Sim.seq ?_
  refine Sim.region0 ?_
  refine SimI.run 1 [(3, .one (li .i64 0))] [] (by kernel_rfl) ?_
  refine SimI.done (by kernel_rfl) ?_
  refine SimE.thenN ?_
  refine Sim.block ?_
  refine Sim.loop ?_
  refine SimL.succ ?_
  refine Sim.seq ?_
  refine Sim.seq ?_
  refine Sim.region [(1, .one (.ptr 1 0)), (3, .one (li .i64 0))] ((1, some (.cells [li .i64 a0.ID, li .u8 a0.Mask, li .i64 a0.At.X, li .i64 a0.At.Y, li .i64 a0.F.a0.N, ls a0.F.a0.Text, li .i64 a0.F.a1.N, ls a0.F.a1.Text, li .i64 a0.F.a2.N, ls a0.F.a2.Text, li .i64 a0.F.a3.N, ls a0.F.a3.Text])) :: []) (by kernel_rfl) ?_
  refine SimI.run 2 [(5, .one (lb true)), (4, .one (li .i64 0))] [] (by kernel_rfl) ?_
  refine SimI.done (by kernel_rfl) ?_
  refine SimE.thenN ?_
  refine Sim.condT (by kernel_rfl) ?_
  refine Sim.skip ?_
  refine SimE.thenN ?_
  refine Sim.seq ?_
  refine Sim.block ?_
  refine Sim.seq ?_
  refine Sim.region0 ?_
  refine SimI.run 4 [(11, .agg [li .i64 a0.F.a0.N, ls a0.F.a0.Text]), (10, .one (.ptr 1 4)), (9, .one (.ptr 1 4)), (8, .one (li .i64 0))] [] (by kernel_rfl) ?_
  refine SimI.bind (og := F17 n a0.F.a0) { dst := some 12, op := POp.call true [[]] 17 [Operand.tmp 11], guard := none, hints := [] } (fun r1 => [(12, .one (lb r1))]) (fun r1 => []) (by kernel_rfl) (fun r1 hr => pOp_eff (by kernel_rfl) (by kernel_rfl) (eff_call (ARGS := [.agg [li .i64 a0.F.a0.N, ls a0.F.a0.Text]]) (by kernel_rfl) (args_clean (by kernel_rfl) args_nil) (F17_ok n a0.F.a0 r1 hr) (by kernel_rfl))) (fun r1 => ?_)
  refine SimI.run 1 [(13, .one (lb (!(r1))))] [] (by kernel_rfl) ?_
  refine SimI.done (by kernel_rfl) ?_
  refine SimE.thenN ?_
  refine Sim.cond (!(r1)) (by kernel_rfl) ?_ ?_
  · refine Sim.seq ?_
    refine Sim.region0 ?_
    refine SimI.run 1 [(2, .one (lb false))] [] (by kernel_rfl) ?_
    refine SimI.done (by kernel_rfl) ?_
    refine SimE.thenN ?_
    refine Sim.ret ?_
    refine SimE.blockR ?_
    refine SimE.thenR ?_
    refine SimE.loopR ?_
    refine SimE.blockR ?_
    refine SimE.thenR ?_
    exact SimE.fin (by kernel_rfl)
  · refine Sim.skip ?_
    refine SimE.blockN ?_
    refine SimE.thenN ?_
    refine Sim.region0 ?_
    refine SimI.run 3 [(3, .one (li .i64 1)), (7, .one (li .i64 1)), (6, .one (li .i64 0))] [] (by kernel_rfl) ?_
    refine SimI.done (by kernel_rfl) ?_
    refine SimE.loopN ?_
    refine SimL.succ ?_
    refine Sim.seq ?_
    refine Sim.seq ?_
    refine Sim.region [(1, .one (.ptr 1 0)), (3, .one (li .i64 1))] ((1, some (.cells [li .i64 a0.ID, li .u8 a0.Mask, li .i64 a0.At.X, li .i64 a0.At.Y, li .i64 a0.F.a0.N, ls a0.F.a0.Text, li .i64 a0.F.a1.N, ls a0.F.a1.Text, li .i64 a0.F.a2.N, ls a0.F.a2.Text, li .i64 a0.F.a3.N, ls a0.F.a3.Text])) :: []) (by kernel_rfl) ?_
    refine SimI.run 2 [(5, .one (lb true)), (4, .one (li .i64 1))] [] (by kernel_rfl) ?_
    refine SimI.done (by kernel_rfl) ?_
    refine SimE.thenN ?_
    refine Sim.condT (by kernel_rfl) ?_
    refine Sim.skip ?_
    refine SimE.thenN ?_
    refine Sim.seq ?_
    refine Sim.block ?_
    refine Sim.seq ?_
    refine Sim.region0 ?_
    refine SimI.run 4 [(11, .agg [li .i64 a0.F.a1.N, ls a0.F.a1.Text]), (10, .one (.ptr 1 6)), (9, .one (.ptr 1 4)), (8, .one (li .i64 1))] [] (by kernel_rfl) ?_
    refine SimI.bind (og := F17 n a0.F.a1) { dst := some 12, op := POp.call true [[]] 17 [Operand.tmp 11], guard := none, hints := [] } (fun r2 => [(12, .one (lb r2))]) (fun r2 => []) (by kernel_rfl) (fun r2 hr => pOp_eff (by kernel_rfl) (by kernel_rfl) (eff_call (ARGS := [.agg [li .i64 a0.F.a1.N, ls a0.F.a1.Text]]) (by kernel_rfl) (args_clean (by kernel_rfl) args_nil) (F17_ok n a0.F.a1 r2 hr) (by kernel_rfl))) (fun r2 => ?_)
    refine SimI.run 1 [(13, .one (lb (!(r2))))] [] (by kernel_rfl) ?_
    refine SimI.done (by kernel_rfl) ?_
    refine SimE.thenN ?_
    refine Sim.cond (!(r2)) (by kernel_rfl) ?_ ?_
    · refine Sim.seq ?_
      refine Sim.region0 ?_
      refine SimI.run 1 [(2, .one (lb false))] [] (by kernel_rfl) ?_
      refine SimI.done (by kernel_rfl) ?_
      refine SimE.thenN ?_
      refine Sim.ret ?_
      refine SimE.blockR ?_
      refine SimE.thenR ?_
      refine SimE.loopR ?_
      refine SimE.blockR ?_
      refine SimE.thenR ?_
      exact SimE.fin (by kernel_rfl)
    · refine Sim.skip ?_
      refine SimE.blockN ?_
      refine SimE.thenN ?_
      refine Sim.region0 ?_
      refine SimI.run 3 [(3, .one (li .i64 2)), (7, .one (li .i64 2)), (6, .one (li .i64 1))] [] (by kernel_rfl) ?_
      refine SimI.done (by kernel_rfl) ?_
      refine SimE.loopN ?_
      refine SimL.succ ?_
      refine Sim.seq ?_
      refine Sim.seq ?_
      refine Sim.region [(1, .one (.ptr 1 0)), (3, .one (li .i64 2))] ((1, some (.cells [li .i64 a0.ID, li .u8 a0.Mask, li .i64 a0.At.X, li .i64 a0.At.Y, li .i64 a0.F.a0.N, ls a0.F.a0.Text, li .i64 a0.F.a1.N, ls a0.F.a1.Text, li .i64 a0.F.a2.N, ls a0.F.a2.Text, li .i64 a0.F.a3.N, ls a0.F.a3.Text])) :: []) (by kernel_rfl) ?_
      refine SimI.run 2 [(5, .one (lb true)), (4, .one (li .i64 2))] [] (by kernel_rfl) ?_
      refine SimI.done (by kernel_rfl) ?_
      refine SimE.thenN ?_
      refine Sim.condT (by kernel_rfl) ?_
      refine Sim.skip ?_
      refine SimE.thenN ?_
      refine Sim.seq ?_
      refine Sim.block ?_
      refine Sim.seq ?_
      refine Sim.region0 ?_
      refine SimI.run 4 [(11, .agg [li .i64 a0.F.a2.N, ls a0.F.a2.Text]), (10, .one (.ptr 1 8)), (9, .one (.ptr 1 4)), (8, .one (li .i64 2))] [] (by kernel_rfl) ?_
      refine SimI.bind (og := F17 n a0.F.a2) { dst := some 12, op := POp.call true [[]] 17 [Operand.tmp 11], guard := none, hints := [] } (fun r3 => [(12, .one (lb r3))]) (fun r3 => []) (by kernel_rfl) (fun r3 hr => pOp_eff (by kernel_rfl) (by kernel_rfl) (eff_call (ARGS := [.agg [li .i64 a0.F.a2.N, ls a0.F.a2.Text]]) (by kernel_rfl) (args_clean (by kernel_rfl) args_nil) (F17_ok n a0.F.a2 r3 hr) (by kernel_rfl))) (fun r3 => ?_)
      refine SimI.run 1 [(13, .one (lb (!(r3))))] [] (by kernel_rfl) ?_
      refine SimI.done (by kernel_rfl) ?_
      refine SimE.thenN ?_
      refine Sim.cond (!(r3)) (by kernel_rfl) ?_ ?_
      · refine Sim.seq ?_
        refine Sim.region0 ?_
        refine SimI.run 1 [(2, .one (lb false))] [] (by kernel_rfl) ?_
        refine SimI.done (by kernel_rfl) ?_
        refine SimE.thenN ?_
        refine Sim.ret ?_
        refine SimE.blockR ?_
        refine SimE.thenR ?_
        refine SimE.loopR ?_
        refine SimE.blockR ?_
        refine SimE.thenR ?_
        exact SimE.fin (by kernel_rfl)
      · refine Sim.skip ?_
        refine SimE.blockN ?_
        refine SimE.thenN ?_
        refine Sim.region0 ?_
        refine SimI.run 3 [(3, .one (li .i64 3)), (7, .one (li .i64 3)), (6, .one (li .i64 2))] [] (by kernel_rfl) ?_
        refine SimI.done (by kernel_rfl) ?_
        refine SimE.loopN ?_
        refine SimL.succ ?_
        refine Sim.seq ?_
        refine Sim.seq ?_
        refine Sim.region [(1, .one (.ptr 1 0)), (3, .one (li .i64 3))] ((1, some (.cells [li .i64 a0.ID, li .u8 a0.Mask, li .i64 a0.At.X, li .i64 a0.At.Y, li .i64 a0.F.a0.N, ls a0.F.a0.Text, li .i64 a0.F.a1.N, ls a0.F.a1.Text, li .i64 a0.F.a2.N, ls a0.F.a2.Text, li .i64 a0.F.a3.N, ls a0.F.a3.Text])) :: []) (by kernel_rfl) ?_
        refine SimI.run 2 [(5, .one (lb true)), (4, .one (li .i64 3))] [] (by kernel_rfl) ?_
        refine SimI.done (by kernel_rfl) ?_
        refine SimE.thenN ?_
        refine Sim.condT (by kernel_rfl) ?_
        refine Sim.skip ?_
        refine SimE.thenN ?_
        refine Sim.seq ?_
        refine Sim.block ?_
        refine Sim.seq ?_
        refine Sim.region0 ?_
        refine SimI.run 4 [(11, .agg [li .i64 a0.F.a3.N, ls a0.F.a3.Text]), (10, .one (.ptr 1 10)), (9, .one (.ptr 1 4)), (8, .one (li .i64 3))] [] (by kernel_rfl) ?_
        refine SimI.bind (og := F17 n a0.F.a3) { dst := some 12, op := POp.call true [[]] 17 [Operand.tmp 11], guard := none, hints := [] } (fun r4 => [(12, .one (lb r4))]) (fun r4 => []) (by kernel_rfl) (fun r4 hr => pOp_eff (by kernel_rfl) (by kernel_rfl) (eff_call (ARGS := [.agg [li .i64 a0.F.a3.N, ls a0.F.a3.Text]]) (by kernel_rfl) (args_clean (by kernel_rfl) args_nil) (F17_ok n a0.F.a3 r4 hr) (by kernel_rfl))) (fun r4 => ?_)
        refine SimI.run 1 [(13, .one (lb (!(r4))))] [] (by kernel_rfl) ?_
        refine SimI.done (by kernel_rfl) ?_
        refine SimE.thenN ?_
        refine Sim.cond (!(r4)) (by kernel_rfl) ?_ ?_
        · refine Sim.seq ?_
          refine Sim.region0 ?_
          refine SimI.run 1 [(2, .one (lb false))] [] (by kernel_rfl) ?_
          refine SimI.done (by kernel_rfl) ?_
          refine SimE.thenN ?_
          refine Sim.ret ?_
          refine SimE.blockR ?_
          refine SimE.thenR ?_
          refine SimE.loopR ?_
          refine SimE.blockR ?_
          refine SimE.thenR ?_
          exact SimE.fin (by kernel_rfl)
        · refine Sim.skip ?_
          refine SimE.blockN ?_
          refine SimE.thenN ?_
          refine Sim.region0 ?_
          refine SimI.run 3 [(3, .one (li .i64 4)), (7, .one (li .i64 4)), (6, .one (li .i64 3))] [] (by kernel_rfl) ?_
          refine SimI.done (by kernel_rfl) ?_
          refine SimE.loopN ?_
          refine SimL.succ ?_
          refine Sim.seq ?_
          refine Sim.seq ?_
          refine Sim.region [(1, .one (.ptr 1 0)), (3, .one (li .i64 4))] ((1, some (.cells [li .i64 a0.ID, li .u8 a0.Mask, li .i64 a0.At.X, li .i64 a0.At.Y, li .i64 a0.F.a0.N, ls a0.F.a0.Text, li .i64 a0.F.a1.N, ls a0.F.a1.Text, li .i64 a0.F.a2.N, ls a0.F.a2.Text, li .i64 a0.F.a3.N, ls a0.F.a3.Text])) :: []) (by kernel_rfl) ?_
          refine SimI.run 2 [(5, .one (lb false)), (4, .one (li .i64 4))] [] (by kernel_rfl) ?_
          refine SimI.done (by kernel_rfl) ?_
          refine SimE.thenN ?_
          refine Sim.condF (by kernel_rfl) ?_
          refine Sim.exit ?_
          refine SimE.thenX ?_
          refine SimE.loopX ?_
          refine SimE.blockX ?_
          refine SimE.thenN ?_
          refine Sim.seq ?_
          refine Sim.region0 ?_
          refine SimI.run 1 [(2, .one (lb true))] [] (by kernel_rfl) ?_
          refine SimI.done (by kernel_rfl) ?_
          refine SimE.thenN ?_
          refine Sim.ret ?_
          exact SimE.fin (by kernel_rfl)


-- 19: vedette/vedetteref6.Diff
def F19_e : (Delta × Bool) → PV × List (List Lf) := fun r => (.tup [.agg [li .i64 r.1.ID, li .u8 r.1.Mask, li .i64 r.1.At.X, li .i64 r.1.At.Y, li .i64 r.1.F.a0.N, ls r.1.F.a0.Text, li .i64 r.1.F.a1.N, ls r.1.F.a1.Text, li .i64 r.1.F.a2.N, ls r.1.F.a2.Text, li .i64 r.1.F.a3.N, ls r.1.F.a3.Text], .one (lb r.2)], [])
def F19_u20 (n : Nat) (a1 : Thing) (i2 : Int) (i3 : Int) (i6 : Int) (s7 : ByteArray) (i10 : Int) (s11 : ByteArray) (i14 : Int) (s15 : ByteArray) (i17 : Int) (i18 : Int) (s19 : ByteArray) : Option (Delta × Bool) :=
    some ((Delta.mk a1.ID i17 (Point.mk i2 i3) (A4.mk (Field.mk i6 s7) (Field.mk i10 s11) (Field.mk i14 s15) (Field.mk i18 s19))), i17 != 0)
theorem F19_u20_ok (n : Nat) (a0 : Thing) (a1 : Thing) (i2 : Int) (i3 : Int) (i6 : Int) (s7 : ByteArray) (i10 : Int) (s11 : ByteArray) (i14 : Int) (s15 : ByteArray) (i17 : Int) (i18 : Int) (s19 : ByteArray) : SimL Try.prog D (n + 8) (n + 4) pc19_c24 [(2, .one (.ptr 2 0)), (3, .one (.ptr 3 0)), (4, .one (.ptr 4 0)), (6, .one (.ptr 6 0)), (7, .one (li .i64 4))] ((2, some (.cells [li .i64 a0.ID, li .i64 a0.At.X, li .i64 a0.At.Y, li .i64 a0.F.a0.N, ls a0.F.a0.Text, li .i64 a0.F.a1.N, ls a0.F.a1.Text, li .i64 a0.F.a2.N, ls a0.F.a2.Text, li .i64 a0.F.a3.N, ls a0.F.a3.Text])) :: ((3, some (.cells [li .i64 a1.ID, li .i64 a1.At.X, li .i64 a1.At.Y, li .i64 a1.F.a0.N, ls a1.F.a0.Text, li .i64 a1.F.a1.N, ls a1.F.a1.Text, li .i64 a1.F.a2.N, ls a1.F.a2.Text, li .i64 a1.F.a3.N, ls a1.F.a3.Text])) :: ((4, some (.cells [li .i64 0, li .u8 0, li .i64 0, li .i64 0, li .i64 0, ls ByteArray.empty, li .i64 0, ls ByteArray.empty, li .i64 0, ls ByteArray.empty, li .i64 0, ls ByteArray.empty])) :: ((6, some (.cells [li .i64 a1.ID, li .u8 i17, li .i64 i2, li .i64 i3, li .i64 i6, ls s7, li .i64 i10, ls s11, li .i64 i14, ls s15, li .i64 i18, ls s19])) :: [])))) (F19_u20 n a1 i2 i3 i6 s7 i10 s11 i14 s15 i17 i18 s19) (QB 0 (QT Try.prog D (n + 8) pc19_c30 (QF pc19_r 0 F19_e))) := by
    unfold F19_u20
    refine SimL.succ ?_
    refine Sim.seq ?_
    refine Sim.seq ?_
    refine Sim.region [(2, .one (.ptr 2 0)), (3, .one (.ptr 3 0)), (4, .one (.ptr 4 0)), (6, .one (.ptr 6 0)), (7, .one (li .i64 4))] ((2, some (.cells [li .i64 a0.ID, li .i64 a0.At.X, li .i64 a0.At.Y, li .i64 a0.F.a0.N, ls a0.F.a0.Text, li .i64 a0.F.a1.N, ls a0.F.a1.Text, li .i64 a0.F.a2.N, ls a0.F.a2.Text, li .i64 a0.F.a3.N, ls a0.F.a3.Text])) :: ((3, some (.cells [li .i64 a1.ID, li .i64 a1.At.X, li .i64 a1.At.Y, li .i64 a1.F.a0.N, ls a1.F.a0.Text, li .i64 a1.F.a1.N, ls a1.F.a1.Text, li .i64 a1.F.a2.N, ls a1.F.a2.Text, li .i64 a1.F.a3.N, ls a1.F.a3.Text])) :: ((4, some (.cells [li .i64 0, li .u8 0, li .i64 0, li .i64 0, li .i64 0, ls ByteArray.empty, li .i64 0, ls ByteArray.empty, li .i64 0, ls ByteArray.empty, li .i64 0, ls ByteArray.empty])) :: ((6, some (.cells [li .i64 a1.ID, li .u8 i17, li .i64 i2, li .i64 i3, li .i64 i6, ls s7, li .i64 i10, ls s11, li .i64 i14, ls s15, li .i64 i18, ls s19])) :: [])))) (by kernel_rfl) ?_
    refine SimI.run 2 [(21, .one (lb false)), (20, .one (li .i64 4))] [] (by kernel_rfl) ?_
    refine SimI.done (by kernel_rfl) ?_
    refine SimE.thenN ?_
    refine Sim.condF (by kernel_rfl) ?_
    refine Sim.exit ?_
    refine SimE.thenX ?_
    refine SimE.loopX ?_
    refine SimE.blockX ?_
    refine SimE.thenN ?_
    refine Sim.seq ?_
    refine Sim.region0 ?_
    refine SimI.run 6 [(5, .one (lb (i17 != 0))), (50, .one (lb (i17 != 0))), (49, .one (li .u8 i17)), (48, .one (.ptr 6 1)), (47, .agg [li .i64 a1.ID, li .u8 i17, li .i64 i2, li .i64 i3, li .i64 i6, ls s7, li .i64 i10, ls s11, li .i64 i14, ls s15, li .i64 i18, ls s19])] [(4, some (.cells [li .i64 a1.ID, li .u8 i17, li .i64 i2, li .i64 i3, li .i64 i6, ls s7, li .i64 i10, ls s11, li .i64 i14, ls s15, li .i64 i18, ls s19]))] (by kernel_rfl) ?_
    refine SimI.done (by kernel_rfl) ?_
    refine SimE.thenN ?_
    refine Sim.ret ?_
    exact SimE.fin (by kernel_rfl)

def F19_u16 (n : Nat) (a0 : Thing) (a1 : Thing) (i2 : Int) (i3 : Int) (i6 : Int) (s7 : ByteArray) (i10 : Int) (s11 : ByteArray) (i13 : Int) (i14 : Int) (s15 : ByteArray) : Option (Delta × Bool) :=
    if !(Field.eqb a0.F.a3 a1.F.a3) then
      F19_u20 n a1 i2 i3 i6 s7 i10 s11 i14 s15 (bitsI .or .u8 i13 (shlI .u8 2 3)) a1.F.a3.N a1.F.a3.Text
    else
      F19_u20 n a1 i2 i3 i6 s7 i10 s11 i14 s15 i13 0 ByteArray.empty
theorem F19_u16_ok (n : Nat) (a0 : Thing) (a1 : Thing) (i2 : Int) (i3 : Int) (i6 : Int) (s7 : ByteArray) (i10 : Int) (s11 : ByteArray) (i13 : Int) (i14 : Int) (s15 : ByteArray) : SimL Try.prog D (n + 8) (n + 5) pc19_c24 [(2, .one (.ptr 2 0)), (3, .one (.ptr 3 0)), (4, .one (.ptr 4 0)), (6, .one (.ptr 6 0)), (7, .one (li .i64 3))] ((2, some (.cells [li .i64 a0.ID, li .i64 a0.At.X, li .i64 a0.At.Y, li .i64 a0.F.a0.N, ls a0.F.a0.Text, li .i64 a0.F.a1.N, ls a0.F.a1.Text, li .i64 a0.F.a2.N, ls a0.F.a2.Text, li .i64 a0.F.a3.N, ls a0.F.a3.Text])) :: ((3, some (.cells [li .i64 a1.ID, li .i64 a1.At.X, li .i64 a1.At.Y, li .i64 a1.F.a0.N, ls a1.F.a0.Text, li .i64 a1.F.a1.N, ls a1.F.a1.Text, li .i64 a1.F.a2.N, ls a1.F.a2.Text, li .i64 a1.F.a3.N, ls a1.F.a3.Text])) :: ((4, some (.cells [li .i64 0, li .u8 0, li .i64 0, li .i64 0, li .i64 0, ls ByteArray.empty, li .i64 0, ls ByteArray.empty, li .i64 0, ls ByteArray.empty, li .i64 0, ls ByteArray.empty])) :: ((6, some (.cells [li .i64 a1.ID, li .u8 i13, li .i64 i2, li .i64 i3, li .i64 i6, ls s7, li .i64 i10, ls s11, li .i64 i14, ls s15, li .i64 0, ls ByteArray.empty])) :: [])))) (F19_u16 n a0 a1 i2 i3 i6 s7 i10 s11 i13 i14 s15) (QB 0 (QT Try.prog D (n + 8) pc19_c30 (QF pc19_r 0 F19_e))) := by
    unfold F19_u16
    refine SimL.succ ?_
    refine Sim.seq ?_
    refine Sim.seq ?_
    refine Sim.region [(2, .one (.ptr 2 0)), (3, .one (.ptr 3 0)), (4, .one (.ptr 4 0)), (6, .one (.ptr 6 0)), (7, .one (li .i64 3))] ((2, some (.cells [li .i64 a0.ID, li .i64 a0.At.X, li .i64 a0.At.Y, li .i64 a0.F.a0.N, ls a0.F.a0.Text, li .i64 a0.F.a1.N, ls a0.F.a1.Text, li .i64 a0.F.a2.N, ls a0.F.a2.Text, li .i64 a0.F.a3.N, ls a0.F.a3.Text])) :: ((3, some (.cells [li .i64 a1.ID, li .i64 a1.At.X, li .i64 a1.At.Y, li .i64 a1.F.a0.N, ls a1.F.a0.Text, li .i64 a1.F.a1.N, ls a1.F.a1.Text, li .i64 a1.F.a2.N, ls a1.F.a2.Text, li .i64 a1.F.a3.N, ls a1.F.a3.Text])) :: ((4, some (.cells [li .i64 0, li .u8 0, li .i64 0, li .i64 0, li .i64 0, ls ByteArray.empty, li .i64 0, ls ByteArray.empty, li .i64 0, ls ByteArray.empty, li .i64 0, ls ByteArray.empty])) :: ((6, some (.cells [li .i64 a1.ID, li .u8 i13, li .i64 i2, li .i64 i3, li .i64 i6, ls s7, li .i64 i10, ls s11, li .i64 i14, ls s15, li .i64 0, ls ByteArray.empty])) :: [])))) (by kernel_rfl) ?_
    refine SimI.run 2 [(21, .one (lb true)), (20, .one (li .i64 3))] [] (by kernel_rfl) ?_
    refine SimI.done (by kernel_rfl) ?_
    refine SimE.thenN ?_
    refine Sim.condT (by kernel_rfl) ?_
    refine Sim.skip ?_
    refine SimE.thenN ?_
    refine Sim.seq ?_
    refine Sim.block ?_
    refine Sim.seq ?_
    refine Sim.region0 ?_
    refine SimI.run 8 [(31, .agg [li .i64 a1.F.a3.N, ls a1.F.a3.Text]), (30, .one (.ptr 3 9)), (29, .one (.ptr 3 3)), (28, .one (li .i64 3)), (27, .agg [li .i64 a0.F.a3.N, ls a0.F.a3.Text]), (26, .one (.ptr 2 9)), (25, .one (.ptr 2 3)), (24, .one (li .i64 3))] [] (by kernel_rfl) ?_
    refine SimI.step { dst := some 32, op := POp.prim (Prim.bin BinOp.neq 25 false false) [Operand.tmp 27, Operand.tmp 31], guard := none, hints := [(27, Hint.imm), (31, Hint.imm)] } [(32, .one (lb (!(Field.eqb a0.F.a3 a1.F.a3))))] [] (by kernel_rfl) (pOp_eff (by kernel_rfl) (by kernel_rfl) (eff_prim (by kernel_rfl) (Field_eqn a0.F.a3 a1.F.a3 _ _))) ?_
    refine SimI.done (by kernel_rfl) ?_
    refine SimE.thenN ?_
    refine Sim.cond (!(Field.eqb a0.F.a3 a1.F.a3)) (by kernel_rfl) ?_ ?_
    · refine Sim.seq ?_
      refine Sim.region0 ?_
      refine SimI.run 8 [(39, .one (.ptr 6 1)), (38, .one (li .u8 (bitsI .or .u8 i13 (shlI .u8 2 3)))), (37, .one (li .u8 (shlI .u8 2 3))), (36, .one (li .u64 3)), (35, .one (li .i64 3)), (34, .one (li .u8 i13)), (33, .one (.ptr 6 1))] [(6, some (.cells [li .i64 a1.ID, li .u8 (bitsI .or .u8 i13 (shlI .u8 2 3)), li .i64 i2, li .i64 i3, li .i64 i6, ls s7, li .i64 i10, ls s11, li .i64 i14, ls s15, li .i64 0, ls ByteArray.empty]))] (by kernel_rfl) ?_
      refine SimI.done (by kernel_rfl) ?_
      refine SimE.thenN ?_
      refine Sim.region0 ?_
      refine SimI.run 8 [(46, .one (.ptr 6 10)), (45, .one (.ptr 6 4)), (44, .agg [li .i64 a1.F.a3.N, ls a1.F.a3.Text]), (43, .one (.ptr 3 9)), (42, .one (.ptr 3 3)), (41, .one (li .i64 3)), (40, .one (li .i64 3))] [(6, some (.cells [li .i64 a1.ID, li .u8 (bitsI .or .u8 i13 (shlI .u8 2 3)), li .i64 i2, li .i64 i3, li .i64 i6, ls s7, li .i64 i10, ls s11, li .i64 i14, ls s15, li .i64 a1.F.a3.N, ls a1.F.a3.Text]))] (by kernel_rfl) ?_
      refine SimI.done (by kernel_rfl) ?_
      refine SimE.blockN ?_
      refine SimE.thenN ?_
      refine Sim.region0 ?_
      refine SimI.run 3 [(7, .one (li .i64 4)), (23, .one (li .i64 4)), (22, .one (li .i64 3))] [] (by kernel_rfl) ?_
      refine SimI.done (by kernel_rfl) ?_
      refine SimE.loopN ?_
      refine SimL.pre (ts := [2, 3, 4, 6, 7]) (os := [2, 3, 4, 6]) [(2, .one (.ptr 2 0)), (3, .one (.ptr 3 0)), (4, .one (.ptr 4 0)), (6, .one (.ptr 6 0)), (7, .one (li .i64 4))] ((2, some (.cells [li .i64 a0.ID, li .i64 a0.At.X, li .i64 a0.At.Y, li .i64 a0.F.a0.N, ls a0.F.a0.Text, li .i64 a0.F.a1.N, ls a0.F.a1.Text, li .i64 a0.F.a2.N, ls a0.F.a2.Text, li .i64 a0.F.a3.N, ls a0.F.a3.Text])) :: ((3, some (.cells [li .i64 a1.ID, li .i64 a1.At.X, li .i64 a1.At.Y, li .i64 a1.F.a0.N, ls a1.F.a0.Text, li .i64 a1.F.a1.N, ls a1.F.a1.Text, li .i64 a1.F.a2.N, ls a1.F.a2.Text, li .i64 a1.F.a3.N, ls a1.F.a3.Text])) :: ((4, some (.cells [li .i64 0, li .u8 0, li .i64 0, li .i64 0, li .i64 0, ls ByteArray.empty, li .i64 0, ls ByteArray.empty, li .i64 0, ls ByteArray.empty, li .i64 0, ls ByteArray.empty])) :: ((6, some (.cells [li .i64 a1.ID, li .u8 (bitsI .or .u8 i13 (shlI .u8 2 3)), li .i64 i2, li .i64 i3, li .i64 i6, ls s7, li .i64 i10, ls s11, li .i64 i14, ls s15, li .i64 a1.F.a3.N, ls a1.F.a3.Text])) :: [])))) (by kernel_rfl) (by kernel_rfl) (by kernel_rfl) ?_
      exact F19_u20_ok n a0 a1 i2 i3 i6 s7 i10 s11 i14 s15 (bitsI .or .u8 i13 (shlI .u8 2 3)) a1.F.a3.N a1.F.a3.Text
    · refine Sim.skip ?_
      refine SimE.blockN ?_
      refine SimE.thenN ?_
      refine Sim.region0 ?_
      refine SimI.run 3 [(7, .one (li .i64 4)), (23, .one (li .i64 4)), (22, .one (li .i64 3))] [] (by kernel_rfl) ?_
      refine SimI.done (by kernel_rfl) ?_
      refine SimE.loopN ?_
      refine SimL.pre (ts := [2, 3, 4, 6, 7]) (os := [2, 3, 4, 6]) [(2, .one (.ptr 2 0)), (3, .one (.ptr 3 0)), (4, .one (.ptr 4 0)), (6, .one (.ptr 6 0)), (7, .one (li .i64 4))] ((2, some (.cells [li .i64 a0.ID, li .i64 a0.At.X, li .i64 a0.At.Y, li .i64 a0.F.a0.N, ls a0.F.a0.Text, li .i64 a0.F.a1.N, ls a0.F.a1.Text, li .i64 a0.F.a2.N, ls a0.F.a2.Text, li .i64 a0.F.a3.N, ls a0.F.a3.Text])) :: ((3, some (.cells [li .i64 a1.ID, li .i64 a1.At.X, li .i64 a1.At.Y, li .i64 a1.F.a0.N, ls a1.F.a0.Text, li .i64 a1.F.a1.N, ls a1.F.a1.Text, li .i64 a1.F.a2.N, ls a1.F.a2.Text, li .i64 a1.F.a3.N, ls a1.F.a3.Text])) :: ((4, some (.cells [li .i64 0, li .u8 0, li .i64 0, li .i64 0, li .i64 0, ls ByteArray.empty, li .i64 0, ls ByteArray.empty, li .i64 0, ls ByteArray.empty, li .i64 0, ls ByteArray.empty])) :: ((6, some (.cells [li .i64 a1.ID, li .u8 i13, li .i64 i2, li .i64 i3, li .i64 i6, ls s7, li .i64 i10, ls s11, li .i64 i14, ls s15, li .i64 0, ls ByteArray.empty])) :: [])))) (by kernel_rfl) (by kernel_rfl) (by kernel_rfl) ?_
      exact F19_u20_ok n a0 a1 i2 i3 i6 s7 i10 s11 i14 s15 i13 0 ByteArray.empty

def F19_u12 (n : Nat) (a0 : Thing) (a1 : Thing) (i2 : Int) (i3 : Int) (i6 : Int) (s7 : ByteArray) (i9 : Int) (i10 : Int) (s11 : ByteArray) : Option (Delta × Bool) :=
    if !(Field.eqb a0.F.a2 a1.F.a2) then
      F19_u16 n a0 a1 i2 i3 i6 s7 i10 s11 (bitsI .or .u8 i9 (shlI .u8 2 2)) a1.F.a2.N a1.F.a2.Text
    else
      F19_u16 n a0 a1 i2 i3 i6 s7 i10 s11 i9 0 ByteArray.empty
theorem F19_u12_ok (n : Nat) (a0 : Thing) (a1 : Thing) (i2 : Int) (i3 : Int) (i6 : Int) (s7 : ByteArray) (i9 : Int) (i10 : Int) (s11 : ByteArray) : SimL Try.prog D (n + 8) (n + 6) pc19_c24 [(2, .one (.ptr 2 0)), (3, .one (.ptr 3 0)), (4, .one (.ptr 4 0)), (6, .one (.ptr 6 0)), (7, .one (li .i64 2))] ((2, some (.cells [li .i64 a0.ID, li .i64 a0.At.X, li .i64 a0.At.Y, li .i64 a0.F.a0.N, ls a0.F.a0.Text, li .i64 a0.F.a1.N, ls a0.F.a1.Text, li .i64 a0.F.a2.N, ls a0.F.a2.Text, li .i64 a0.F.a3.N, ls a0.F.a3.Text])) :: ((3, some (.cells [li .i64 a1.ID, li .i64 a1.At.X, li .i64 a1.At.Y, li .i64 a1.F.a0.N, ls a1.F.a0.Text, li .i64 a1.F.a1.N, ls a1.F.a1.Text, li .i64 a1.F.a2.N, ls a1.F.a2.Text, li .i64 a1.F.a3.N, ls a1.F.a3.Text])) :: ((4, some (.cells [li .i64 0, li .u8 0, li .i64 0, li .i64 0, li .i64 0, ls ByteArray.empty, li .i64 0, ls ByteArray.empty, li .i64 0, ls ByteArray.empty, li .i64 0, ls ByteArray.empty])) :: ((6, some (.cells [li .i64 a1.ID, li .u8 i9, li .i64 i2, li .i64 i3, li .i64 i6, ls s7, li .i64 i10, ls s11, li .i64 0, ls ByteArray.empty, li .i64 0, ls ByteArray.empty])) :: [])))) (F19_u12 n a0 a1 i2 i3 i6 s7 i9 i10 s11) (QB 0 (QT Try.prog D (n + 8) pc19_c30 (QF pc19_r 0 F19_e))) := by
    unfold F19_u12
    refine SimL.succ ?_
    refine Sim.seq ?_
    refine Sim.seq ?_
    refine Sim.region [(2, .one (.ptr 2 0)), (3, .one (.ptr 3 0)), (4, .one (.ptr 4 0)), (6, .one (.ptr 6 0)), (7, .one (li .i64 2))] ((2, some (.cells [li .i64 a0.ID, li .i64 a0.At.X, li .i64 a0.At.Y, li .i64 a0.F.a0.N, ls a0.F.a0.Text, li .i64 a0.F.a1.N, ls a0.F.a1.Text, li .i64 a0.F.a2.N, ls a0.F.a2.Text, li .i64 a0.F.a3.N, ls a0.F.a3.Text])) :: ((3, some (.cells [li .i64 a1.ID, li .i64 a1.At.X, li .i64 a1.At.Y, li .i64 a1.F.a0.N, ls a1.F.a0.Text, li .i64 a1.F.a1.N, ls a1.F.a1.Text, li .i64 a1.F.a2.N, ls a1.F.a2.Text, li .i64 a1.F.a3.N, ls a1.F.a3.Text])) :: ((4, some (.cells [li .i64 0, li .u8 0, li .i64 0, li .i64 0, li .i64 0, ls ByteArray.empty, li .i64 0, ls ByteArray.empty, li .i64 0, ls ByteArray.empty, li .i64 0, ls ByteArray.empty])) :: ((6, some (.cells [li .i64 a1.ID, li .u8 i9, li .i64 i2, li .i64 i3, li .i64 i6, ls s7, li .i64 i10, ls s11, li .i64 0, ls ByteArray.empty, li .i64 0, ls ByteArray.empty])) :: [])))) (by kernel_rfl) ?_
    refine SimI.run 2 [(21, .one (lb true)), (20, .one (li .i64 2))] [] (by kernel_rfl) ?_
    refine SimI.done (by kernel_rfl) ?_
    refine SimE.thenN ?_
    refine Sim.condT (by kernel_rfl) ?_
    refine Sim.skip ?_
    refine SimE.thenN ?_
    refine Sim.seq ?_
    refine Sim.block ?_
    refine Sim.seq ?_
    refine Sim.region0 ?_
    refine SimI.run 8 [(31, .agg [li .i64 a1.F.a2.N, ls a1.F.a2.Text]), (30, .one (.ptr 3 7)), (29, .one (.ptr 3 3)), (28, .one (li .i64 2)), (27, .agg [li .i64 a0.F.a2.N, ls a0.F.a2.Text]), (26, .one (.ptr 2 7)), (25, .one (.ptr 2 3)), (24, .one (li .i64 2))] [] (by kernel_rfl) ?_
    refine SimI.step { dst := some 32, op := POp.prim (Prim.bin BinOp.neq 25 false false) [Operand.tmp 27, Operand.tmp 31], guard := none, hints := [(27, Hint.imm), (31, Hint.imm)] } [(32, .one (lb (!(Field.eqb a0.F.a2 a1.F.a2))))] [] (by kernel_rfl) (pOp_eff (by kernel_rfl) (by kernel_rfl) (eff_prim (by kernel_rfl) (Field_eqn a0.F.a2 a1.F.a2 _ _))) ?_
    refine SimI.done (by kernel_rfl) ?_
    refine SimE.thenN ?_
    refine Sim.cond (!(Field.eqb a0.F.a2 a1.F.a2)) (by kernel_rfl) ?_ ?_
    · refine Sim.seq ?_
      refine Sim.region0 ?_
      refine SimI.run 8 [(39, .one (.ptr 6 1)), (38, .one (li .u8 (bitsI .or .u8 i9 (shlI .u8 2 2)))), (37, .one (li .u8 (shlI .u8 2 2))), (36, .one (li .u64 2)), (35, .one (li .i64 2)), (34, .one (li .u8 i9)), (33, .one (.ptr 6 1))] [(6, some (.cells [li .i64 a1.ID, li .u8 (bitsI .or .u8 i9 (shlI .u8 2 2)), li .i64 i2, li .i64 i3, li .i64 i6, ls s7, li .i64 i10, ls s11, li .i64 0, ls ByteArray.empty, li .i64 0, ls ByteArray.empty]))] (by kernel_rfl) ?_
      refine SimI.done (by kernel_rfl) ?_
      refine SimE.thenN ?_
      refine Sim.region0 ?_
      refine SimI.run 8 [(46, .one (.ptr 6 8)), (45, .one (.ptr 6 4)), (44, .agg [li .i64 a1.F.a2.N, ls a1.F.a2.Text]), (43, .one (.ptr 3 7)), (42, .one (.ptr 3 3)), (41, .one (li .i64 2)), (40, .one (li .i64 2))] [(6, some (.cells [li .i64 a1.ID, li .u8 (bitsI .or .u8 i9 (shlI .u8 2 2)), li .i64 i2, li .i64 i3, li .i64 i6, ls s7, li .i64 i10, ls s11, li .i64 a1.F.a2.N, ls a1.F.a2.Text, li .i64 0, ls ByteArray.empty]))] (by kernel_rfl) ?_
      refine SimI.done (by kernel_rfl) ?_
      refine SimE.blockN ?_
      refine SimE.thenN ?_
      refine Sim.region0 ?_
      refine SimI.run 3 [(7, .one (li .i64 3)), (23, .one (li .i64 3)), (22, .one (li .i64 2))] [] (by kernel_rfl) ?_
      refine SimI.done (by kernel_rfl) ?_
      refine SimE.loopN ?_
      refine SimL.pre (ts := [2, 3, 4, 6, 7]) (os := [2, 3, 4, 6]) [(2, .one (.ptr 2 0)), (3, .one (.ptr 3 0)), (4, .one (.ptr 4 0)), (6, .one (.ptr 6 0)), (7, .one (li .i64 3))] ((2, some (.cells [li .i64 a0.ID, li .i64 a0.At.X, li .i64 a0.At.Y, li .i64 a0.F.a0.N, ls a0.F.a0.Text, li .i64 a0.F.a1.N, ls a0.F.a1.Text, li .i64 a0.F.a2.N, ls a0.F.a2.Text, li .i64 a0.F.a3.N, ls a0.F.a3.Text])) :: ((3, some (.cells [li .i64 a1.ID, li .i64 a1.At.X, li .i64 a1.At.Y, li .i64 a1.F.a0.N, ls a1.F.a0.Text, li .i64 a1.F.a1.N, ls a1.F.a1.Text, li .i64 a1.F.a2.N, ls a1.F.a2.Text, li .i64 a1.F.a3.N, ls a1.F.a3.Text])) :: ((4, some (.cells [li .i64 0, li .u8 0, li .i64 0, li .i64 0, li .i64 0, ls ByteArray.empty, li .i64 0, ls ByteArray.empty, li .i64 0, ls ByteArray.empty, li .i64 0, ls ByteArray.empty])) :: ((6, some (.cells [li .i64 a1.ID, li .u8 (bitsI .or .u8 i9 (shlI .u8 2 2)), li .i64 i2, li .i64 i3, li .i64 i6, ls s7, li .i64 i10, ls s11, li .i64 a1.F.a2.N, ls a1.F.a2.Text, li .i64 0, ls ByteArray.empty])) :: [])))) (by kernel_rfl) (by kernel_rfl) (by kernel_rfl) ?_
      exact F19_u16_ok n a0 a1 i2 i3 i6 s7 i10 s11 (bitsI .or .u8 i9 (shlI .u8 2 2)) a1.F.a2.N a1.F.a2.Text
    · refine Sim.skip ?_
      refine SimE.blockN ?_
      refine SimE.thenN ?_
      refine Sim.region0 ?_
      refine SimI.run 3 [(7, .one (li .i64 3)), (23, .one (li .i64 3)), (22, .one (li .i64 2))] [] (by kernel_rfl) ?_
      refine SimI.done (by kernel_rfl) ?_
      refine SimE.loopN ?_
      refine SimL.pre (ts := [2, 3, 4, 6, 7]) (os := [2, 3, 4, 6]) [(2, .one (.ptr 2 0)), (3, .one (.ptr 3 0)), (4, .one (.ptr 4 0)), (6, .one (.ptr 6 0)), (7, .one (li .i64 3))] ((2, some (.cells [li .i64 a0.ID, li .i64 a0.At.X, li .i64 a0.At.Y, li .i64 a0.F.a0.N, ls a0.F.a0.Text, li .i64 a0.F.a1.N, ls a0.F.a1.Text, li .i64 a0.F.a2.N, ls a0.F.a2.Text, li .i64 a0.F.a3.N, ls a0.F.a3.Text])) :: ((3, some (.cells [li .i64 a1.ID, li .i64 a1.At.X, li .i64 a1.At.Y, li .i64 a1.F.a0.N, ls a1.F.a0.Text, li .i64 a1.F.a1.N, ls a1.F.a1.Text, li .i64 a1.F.a2.N, ls a1.F.a2.Text, li .i64 a1.F.a3.N, ls a1.F.a3.Text])) :: ((4, some (.cells [li .i64 0, li .u8 0, li .i64 0, li .i64 0, li .i64 0, ls ByteArray.empty, li .i64 0, ls ByteArray.empty, li .i64 0, ls ByteArray.empty, li .i64 0, ls ByteArray.empty])) :: ((6, some (.cells [li .i64 a1.ID, li .u8 i9, li .i64 i2, li .i64 i3, li .i64 i6, ls s7, li .i64 i10, ls s11, li .i64 0, ls ByteArray.empty, li .i64 0, ls ByteArray.empty])) :: [])))) (by kernel_rfl) (by kernel_rfl) (by kernel_rfl) ?_
      exact F19_u16_ok n a0 a1 i2 i3 i6 s7 i10 s11 i9 0 ByteArray.empty

def F19_u8 (n : Nat) (a0 : Thing) (a1 : Thing) (i2 : Int) (i3 : Int) (i5 : Int) (i6 : Int) (s7 : ByteArray) : Option (Delta × Bool) :=
    if !(Field.eqb a0.F.a1 a1.F.a1) then
      F19_u12 n a0 a1 i2 i3 i6 s7 (bitsI .or .u8 i5 (shlI .u8 2 1)) a1.F.a1.N a1.F.a1.Text
    else
      F19_u12 n a0 a1 i2 i3 i6 s7 i5 0 ByteArray.empty
theorem F19_u8_ok (n : Nat) (a0 : Thing) (a1 : Thing) (i2 : Int) (i3 : Int) (i5 : Int) (i6 : Int) (s7 : ByteArray) : SimL Try.prog D (n + 8) (n + 7) pc19_c24 [(2, .one (.ptr 2 0)), (3, .one (.ptr 3 0)), (4, .one (.ptr 4 0)), (6, .one (.ptr 6 0)), (7, .one (li .i64 1))] ((2, some (.cells [li .i64 a0.ID, li .i64 a0.At.X, li .i64 a0.At.Y, li .i64 a0.F.a0.N, ls a0.F.a0.Text, li .i64 a0.F.a1.N, ls a0.F.a1.Text, li .i64 a0.F.a2.N, ls a0.F.a2.Text, li .i64 a0.F.a3.N, ls a0.F.a3.Text])) :: ((3, some (.cells [li .i64 a1.ID, li .i64 a1.At.X, li .i64 a1.At.Y, li .i64 a1.F.a0.N, ls a1.F.a0.Text, li .i64 a1.F.a1.N, ls a1.F.a1.Text, li .i64 a1.F.a2.N, ls a1.F.a2.Text, li .i64 a1.F.a3.N, ls a1.F.a3.Text])) :: ((4, some (.cells [li .i64 0, li .u8 0, li .i64 0, li .i64 0, li .i64 0, ls ByteArray.empty, li .i64 0, ls ByteArray.empty, li .i64 0, ls ByteArray.empty, li .i64 0, ls ByteArray.empty])) :: ((6, some (.cells [li .i64 a1.ID, li .u8 i5, li .i64 i2, li .i64 i3, li .i64 i6, ls s7, li .i64 0, ls ByteArray.empty, li .i64 0, ls ByteArray.empty, li .i64 0, ls ByteArray.empty])) :: [])))) (F19_u8 n a0 a1 i2 i3 i5 i6 s7) (QB 0 (QT Try.prog D (n + 8) pc19_c30 (QF pc19_r 0 F19_e))) := by
    unfold F19_u8
    refine SimL.succ ?_
    refine Sim.seq ?_
    refine Sim.seq ?_
    refine Sim.region [(2, .one (.ptr 2 0)), (3, .one (.ptr 3 0)), (4, .one (.ptr 4 0)), (6, .one (.ptr 6 0)), (7, .one (li .i64 1))] ((2, some (.cells [li .i64 a0.ID, li .i64 a0.At.X, li .i64 a0.At.Y, li .i64 a0.F.a0.N, ls a0.F.a0.Text, li .i64 a0.F.a1.N, ls a0.F.a1.Text, li .i64 a0.F.a2.N, ls a0.F.a2.Text, li .i64 a0.F.a3.N, ls a0.F.a3.Text])) :: ((3, some (.cells [li .i64 a1.ID, li .i64 a1.At.X, li .i64 a1.At.Y, li .i64 a1.F.a0.N, ls a1.F.a0.Text, li .i64 a1.F.a1.N, ls a1.F.a1.Text, li .i64 a1.F.a2.N, ls a1.F.a2.Text, li .i64 a1.F.a3.N, ls a1.F.a3.Text])) :: ((4, some (.cells [li .i64 0, li .u8 0, li .i64 0, li .i64 0, li .i64 0, ls ByteArray.empty, li .i64 0, ls ByteArray.empty, li .i64 0, ls ByteArray.empty, li .i64 0, ls ByteArray.empty])) :: ((6, some (.cells [li .i64 a1.ID, li .u8 i5, li .i64 i2, li .i64 i3, li .i64 i6, ls s7, li .i64 0, ls ByteArray.empty, li .i64 0, ls ByteArray.empty, li .i64 0, ls ByteArray.empty])) :: [])))) (by kernel_rfl) ?_
    refine SimI.run 2 [(21, .one (lb true)), (20, .one (li .i64 1))] [] (by kernel_rfl) ?_
    refine SimI.done (by kernel_rfl) ?_
    refine SimE.thenN ?_
    refine Sim.condT (by kernel_rfl) ?_
    refine Sim.skip ?_
    refine SimE.thenN ?_
    refine Sim.seq ?_
    refine Sim.block ?_
    refine Sim.seq ?_
    refine Sim.region0 ?_
    refine SimI.run 8 [(31, .agg [li .i64 a1.F.a1.N, ls a1.F.a1.Text]), (30, .one (.ptr 3 5)), (29, .one (.ptr 3 3)), (28, .one (li .i64 1)), (27, .agg [li .i64 a0.F.a1.N, ls a0.F.a1.Text]), (26, .one (.ptr 2 5)), (25, .one (.ptr 2 3)), (24, .one (li .i64 1))] [] (by kernel_rfl) ?_
    refine SimI.step { dst := some 32, op := POp.prim (Prim.bin BinOp.neq 25 false false) [Operand.tmp 27, Operand.tmp 31], guard := none, hints := [(27, Hint.imm), (31, Hint.imm)] } [(32, .one (lb (!(Field.eqb a0.F.a1 a1.F.a1))))] [] (by kernel_rfl) (pOp_eff (by kernel_rfl) (by kernel_rfl) (eff_prim (by kernel_rfl) (Field_eqn a0.F.a1 a1.F.a1 _ _))) ?_
    refine SimI.done (by kernel_rfl) ?_
    refine SimE.thenN ?_
    refine Sim.cond (!(Field.eqb a0.F.a1 a1.F.a1)) (by kernel_rfl) ?_ ?_
    · refine Sim.seq ?_
      refine Sim.region0 ?_
      refine SimI.run 8 [(39, .one (.ptr 6 1)), (38, .one (li .u8 (bitsI .or .u8 i5 (shlI .u8 2 1)))), (37, .one (li .u8 (shlI .u8 2 1))), (36, .one (li .u64 1)), (35, .one (li .i64 1)), (34, .one (li .u8 i5)), (33, .one (.ptr 6 1))] [(6, some (.cells [li .i64 a1.ID, li .u8 (bitsI .or .u8 i5 (shlI .u8 2 1)), li .i64 i2, li .i64 i3, li .i64 i6, ls s7, li .i64 0, ls ByteArray.empty, li .i64 0, ls ByteArray.empty, li .i64 0, ls ByteArray.empty]))] (by kernel_rfl) ?_
      refine SimI.done (by kernel_rfl) ?_
      refine SimE.thenN ?_
      refine Sim.region0 ?_
      refine SimI.run 8 [(46, .one (.ptr 6 6)), (45, .one (.ptr 6 4)), (44, .agg [li .i64 a1.F.a1.N, ls a1.F.a1.Text]), (43, .one (.ptr 3 5)), (42, .one (.ptr 3 3)), (41, .one (li .i64 1)), (40, .one (li .i64 1))] [(6, some (.cells [li .i64 a1.ID, li .u8 (bitsI .or .u8 i5 (shlI .u8 2 1)), li .i64 i2, li .i64 i3, li .i64 i6, ls s7, li .i64 a1.F.a1.N, ls a1.F.a1.Text, li .i64 0, ls ByteArray.empty, li .i64 0, ls ByteArray.empty]))] (by kernel_rfl) ?_
      refine SimI.done (by kernel_rfl) ?_
      refine SimE.blockN ?_
      refine SimE.thenN ?_
      refine Sim.region0 ?_
      refine SimI.run 3 [(7, .one (li .i64 2)), (23, .one (li .i64 2)), (22, .one (li .i64 1))] [] (by kernel_rfl) ?_
      refine SimI.done (by kernel_rfl) ?_
      refine SimE.loopN ?_
      refine SimL.pre (ts := [2, 3, 4, 6, 7]) (os := [2, 3, 4, 6]) [(2, .one (.ptr 2 0)), (3, .one (.ptr 3 0)), (4, .one (.ptr 4 0)), (6, .one (.ptr 6 0)), (7, .one (li .i64 2))] ((2, some (.cells [li .i64 a0.ID, li .i64 a0.At.X, li .i64 a0.At.Y, li .i64 a0.F.a0.N, ls a0.F.a0.Text, li .i64 a0.F.a1.N, ls a0.F.a1.Text, li .i64 a0.F.a2.N, ls a0.F.a2.Text, li .i64 a0.F.a3.N, ls a0.F.a3.Text])) :: ((3, some (.cells [li .i64 a1.ID, li .i64 a1.At.X, li .i64 a1.At.Y, li .i64 a1.F.a0.N, ls a1.F.a0.Text, li .i64 a1.F.a1.N, ls a1.F.a1.Text, li .i64 a1.F.a2.N, ls a1.F.a2.Text, li .i64 a1.F.a3.N, ls a1.F.a3.Text])) :: ((4, some (.cells [li .i64 0, li .u8 0, li .i64 0, li .i64 0, li .i64 0, ls ByteArray.empty, li .i64 0, ls ByteArray.empty, li .i64 0, ls ByteArray.empty, li .i64 0, ls ByteArray.empty])) :: ((6, some (.cells [li .i64 a1.ID, li .u8 (bitsI .or .u8 i5 (shlI .u8 2 1)), li .i64 i2, li .i64 i3, li .i64 i6, ls s7, li .i64 a1.F.a1.N, ls a1.F.a1.Text, li .i64 0, ls ByteArray.empty, li .i64 0, ls ByteArray.empty])) :: [])))) (by kernel_rfl) (by kernel_rfl) (by kernel_rfl) ?_
      exact F19_u12_ok n a0 a1 i2 i3 i6 s7 (bitsI .or .u8 i5 (shlI .u8 2 1)) a1.F.a1.N a1.F.a1.Text
    · refine Sim.skip ?_
      refine SimE.blockN ?_
      refine SimE.thenN ?_
      refine Sim.region0 ?_
      refine SimI.run 3 [(7, .one (li .i64 2)), (23, .one (li .i64 2)), (22, .one (li .i64 1))] [] (by kernel_rfl) ?_
      refine SimI.done (by kernel_rfl) ?_
      refine SimE.loopN ?_
      refine SimL.pre (ts := [2, 3, 4, 6, 7]) (os := [2, 3, 4, 6]) [(2, .one (.ptr 2 0)), (3, .one (.ptr 3 0)), (4, .one (.ptr 4 0)), (6, .one (.ptr 6 0)), (7, .one (li .i64 2))] ((2, some (.cells [li .i64 a0.ID, li .i64 a0.At.X, li .i64 a0.At.Y, li .i64 a0.F.a0.N, ls a0.F.a0.Text, li .i64 a0.F.a1.N, ls a0.F.a1.Text, li .i64 a0.F.a2.N, ls a0.F.a2.Text, li .i64 a0.F.a3.N, ls a0.F.a3.Text])) :: ((3, some (.cells [li .i64 a1.ID, li .i64 a1.At.X, li .i64 a1.At.Y, li .i64 a1.F.a0.N, ls a1.F.a0.Text, li .i64 a1.F.a1.N, ls a1.F.a1.Text, li .i64 a1.F.a2.N, ls a1.F.a2.Text, li .i64 a1.F.a3.N, ls a1.F.a3.Text])) :: ((4, some (.cells [li .i64 0, li .u8 0, li .i64 0, li .i64 0, li .i64 0, ls ByteArray.empty, li .i64 0, ls ByteArray.empty, li .i64 0, ls ByteArray.empty, li .i64 0, ls ByteArray.empty])) :: ((6, some (.cells [li .i64 a1.ID, li .u8 i5, li .i64 i2, li .i64 i3, li .i64 i6, ls s7, li .i64 0, ls ByteArray.empty, li .i64 0, ls ByteArray.empty, li .i64 0, ls ByteArray.empty])) :: [])))) (by kernel_rfl) (by kernel_rfl) (by kernel_rfl) ?_
      exact F19_u12_ok n a0 a1 i2 i3 i6 s7 i5 0 ByteArray.empty

def F19_j4 (n : Nat) (a0 : Thing) (a1 : Thing) (i1 : Int) (i2 : Int) (i3 : Int) : Option (Delta × Bool) :=
    if !(Field.eqb a0.F.a0 a1.F.a0) then
      F19_u8 n a0 a1 i2 i3 (bitsI .or .u8 i1 (shlI .u8 2 0)) a1.F.a0.N a1.F.a0.Text
    else
      F19_u8 n a0 a1 i2 i3 i1 0 ByteArray.empty
theorem F19_j4_ok (n : Nat) (a0 : Thing) (a1 : Thing) (i1 : Int) (i2 : Int) (i3 : Int) : Sim Try.prog D (n + 8) pc19_c31 [(2, .one (.ptr 2 0)), (3, .one (.ptr 3 0)), (4, .one (.ptr 4 0)), (6, .one (.ptr 6 0))] ((2, some (.cells [li .i64 a0.ID, li .i64 a0.At.X, li .i64 a0.At.Y, li .i64 a0.F.a0.N, ls a0.F.a0.Text, li .i64 a0.F.a1.N, ls a0.F.a1.Text, li .i64 a0.F.a2.N, ls a0.F.a2.Text, li .i64 a0.F.a3.N, ls a0.F.a3.Text])) :: ((3, some (.cells [li .i64 a1.ID, li .i64 a1.At.X, li .i64 a1.At.Y, li .i64 a1.F.a0.N, ls a1.F.a0.Text, li .i64 a1.F.a1.N, ls a1.F.a1.Text, li .i64 a1.F.a2.N, ls a1.F.a2.Text, li .i64 a1.F.a3.N, ls a1.F.a3.Text])) :: ((4, some (.cells [li .i64 0, li .u8 0, li .i64 0, li .i64 0, li .i64 0, ls ByteArray.empty, li .i64 0, ls ByteArray.empty, li .i64 0, ls ByteArray.empty, li .i64 0, ls ByteArray.empty])) :: ((6, some (.cells [li .i64 a1.ID, li .u8 i1, li .i64 i2, li .i64 i3, li .i64 0, ls ByteArray.empty, li .i64 0, ls ByteArray.empty, li .i64 0, ls ByteArray.empty, li .i64 0, ls ByteArray.empty])) :: [])))) (F19_j4 n a0 a1 i1 i2 i3) (QF pc19_r 0 F19_e) := by
    unfold F19_j4
    refine Sim.seq ?_
    refine Sim.seq ?_
    refine Sim.region [(2, .one (.ptr 2 0)), (3, .one (.ptr 3 0)), (4, .one (.ptr 4 0)), (6, .one (.ptr 6 0))] ((2, some (.cells [li .i64 a0.ID, li .i64 a0.At.X, li .i64 a0.At.Y, li .i64 a0.F.a0.N, ls a0.F.a0.Text, li .i64 a0.F.a1.N, ls a0.F.a1.Text, li .i64 a0.F.a2.N, ls a0.F.a2.Text, li .i64 a0.F.a3.N, ls a0.F.a3.Text])) :: ((3, some (.cells [li .i64 a1.ID, li .i64 a1.At.X, li .i64 a1.At.Y, li .i64 a1.F.a0.N, ls a1.F.a0.Text, li .i64 a1.F.a1.N, ls a1.F.a1.Text, li .i64 a1.F.a2.N, ls a1.F.a2.Text, li .i64 a1.F.a3.N, ls a1.F.a3.Text])) :: ((4, some (.cells [li .i64 0, li .u8 0, li .i64 0, li .i64 0, li .i64 0, ls ByteArray.empty, li .i64 0, ls ByteArray.empty, li .i64 0, ls ByteArray.empty, li .i64 0, ls ByteArray.empty])) :: ((6, some (.cells [li .i64 a1.ID, li .u8 i1, li .i64 i2, li .i64 i3, li .i64 0, ls ByteArray.empty, li .i64 0, ls ByteArray.empty, li .i64 0, ls ByteArray.empty, li .i64 0, ls ByteArray.empty])) :: [])))) (by kernel_rfl) ?_
    refine SimI.run 1 [(7, .one (li .i64 0))] [] (by kernel_rfl) ?_
    refine SimI.done (by kernel_rfl) ?_
    refine SimE.thenN ?_
    refine Sim.block ?_
    refine Sim.loop ?_
    refine SimL.succ ?_
    refine Sim.seq ?_
    refine Sim.seq ?_
    refine Sim.region [(2, .one (.ptr 2 0)), (3, .one (.ptr 3 0)), (4, .one (.ptr 4 0)), (6, .one (.ptr 6 0)), (7, .one (li .i64 0))] ((2, some (.cells [li .i64 a0.ID, li .i64 a0.At.X, li .i64 a0.At.Y, li .i64 a0.F.a0.N, ls a0.F.a0.Text, li .i64 a0.F.a1.N, ls a0.F.a1.Text, li .i64 a0.F.a2.N, ls a0.F.a2.Text, li .i64 a0.F.a3.N, ls a0.F.a3.Text])) :: ((3, some (.cells [li .i64 a1.ID, li .i64 a1.At.X, li .i64 a1.At.Y, li .i64 a1.F.a0.N, ls a1.F.a0.Text, li .i64 a1.F.a1.N, ls a1.F.a1.Text, li .i64 a1.F.a2.N, ls a1.F.a2.Text, li .i64 a1.F.a3.N, ls a1.F.a3.Text])) :: ((4, some (.cells [li .i64 0, li .u8 0, li .i64 0, li .i64 0, li .i64 0, ls ByteArray.empty, li .i64 0, ls ByteArray.empty, li .i64 0, ls ByteArray.empty, li .i64 0, ls ByteArray.empty])) :: ((6, some (.cells [li .i64 a1.ID, li .u8 i1, li .i64 i2, li .i64 i3, li .i64 0, ls ByteArray.empty, li .i64 0, ls ByteArray.empty, li .i64 0, ls ByteArray.empty, li .i64 0, ls ByteArray.empty])) :: [])))) (by kernel_rfl) ?_
    refine SimI.run 2 [(21, .one (lb true)), (20, .one (li .i64 0))] [] (by kernel_rfl) ?_
    refine SimI.done (by kernel_rfl) ?_
    refine SimE.thenN ?_
    refine Sim.condT (by kernel_rfl) ?_
    refine Sim.skip ?_
    refine SimE.thenN ?_
    refine Sim.seq ?_
    refine Sim.block ?_
    refine Sim.seq ?_
    refine Sim.region0 ?_
    refine SimI.run 8 [(31, .agg [li .i64 a1.F.a0.N, ls a1.F.a0.Text]), (30, .one (.ptr 3 3)), (29, .one (.ptr 3 3)), (28, .one (li .i64 0)), (27, .agg [li .i64 a0.F.a0.N, ls a0.F.a0.Text]), (26, .one (.ptr 2 3)), (25, .one (.ptr 2 3)), (24, .one (li .i64 0))] [] (by kernel_rfl) ?_
    refine SimI.step { dst := some 32, op := POp.prim (Prim.bin BinOp.neq 25 false false) [Operand.tmp 27, Operand.tmp 31], guard := none, hints := [(27, Hint.imm), (31, Hint.imm)] } [(32, .one (lb (!(Field.eqb a0.F.a0 a1.F.a0))))] [] (by kernel_rfl) (pOp_eff (by kernel_rfl) (by kernel_rfl) (eff_prim (by kernel_rfl) (Field_eqn a0.F.a0 a1.F.a0 _ _))) ?_
    refine SimI.done (by kernel_rfl) ?_
    refine SimE.thenN ?_
    refine Sim.cond (!(Field.eqb a0.F.a0 a1.F.a0)) (by kernel_rfl) ?_ ?_
    · refine Sim.seq ?_
      refine Sim.region0 ?_
      refine SimI.run 8 [(39, .one (.ptr 6 1)), (38, .one (li .u8 (bitsI .or .u8 i1 (shlI .u8 2 0)))), (37, .one (li .u8 (shlI .u8 2 0))), (36, .one (li .u64 0)), (35, .one (li .i64 0)), (34, .one (li .u8 i1)), (33, .one (.ptr 6 1))] [(6, some (.cells [li .i64 a1.ID, li .u8 (bitsI .or .u8 i1 (shlI .u8 2 0)), li .i64 i2, li .i64 i3, li .i64 0, ls ByteArray.empty, li .i64 0, ls ByteArray.empty, li .i64 0, ls ByteArray.empty, li .i64 0, ls ByteArray.empty]))] (by kernel_rfl) ?_
      refine SimI.done (by kernel_rfl) ?_
      refine SimE.thenN ?_
      refine Sim.region0 ?_
      refine SimI.run 8 [(46, .one (.ptr 6 4)), (45, .one (.ptr 6 4)), (44, .agg [li .i64 a1.F.a0.N, ls a1.F.a0.Text]), (43, .one (.ptr 3 3)), (42, .one (.ptr 3 3)), (41, .one (li .i64 0)), (40, .one (li .i64 0))] [(6, some (.cells [li .i64 a1.ID, li .u8 (bitsI .or .u8 i1 (shlI .u8 2 0)), li .i64 i2, li .i64 i3, li .i64 a1.F.a0.N, ls a1.F.a0.Text, li .i64 0, ls ByteArray.empty, li .i64 0, ls ByteArray.empty, li .i64 0, ls ByteArray.empty]))] (by kernel_rfl) ?_
      refine SimI.done (by kernel_rfl) ?_
      refine SimE.blockN ?_
      refine SimE.thenN ?_
      refine Sim.region0 ?_
      refine SimI.run 3 [(7, .one (li .i64 1)), (23, .one (li .i64 1)), (22, .one (li .i64 0))] [] (by kernel_rfl) ?_
      refine SimI.done (by kernel_rfl) ?_
      refine SimE.loopN ?_
      refine SimL.pre (ts := [2, 3, 4, 6, 7]) (os := [2, 3, 4, 6]) [(2, .one (.ptr 2 0)), (3, .one (.ptr 3 0)), (4, .one (.ptr 4 0)), (6, .one (.ptr 6 0)), (7, .one (li .i64 1))] ((2, some (.cells [li .i64 a0.ID, li .i64 a0.At.X, li .i64 a0.At.Y, li .i64 a0.F.a0.N, ls a0.F.a0.Text, li .i64 a0.F.a1.N, ls a0.F.a1.Text, li .i64 a0.F.a2.N, ls a0.F.a2.Text, li .i64 a0.F.a3.N, ls a0.F.a3.Text])) :: ((3, some (.cells [li .i64 a1.ID, li .i64 a1.At.X, li .i64 a1.At.Y, li .i64 a1.F.a0.N, ls a1.F.a0.Text, li .i64 a1.F.a1.N, ls a1.F.a1.Text, li .i64 a1.F.a2.N, ls a1.F.a2.Text, li .i64 a1.F.a3.N, ls a1.F.a3.Text])) :: ((4, some (.cells [li .i64 0, li .u8 0, li .i64 0, li .i64 0, li .i64 0, ls ByteArray.empty, li .i64 0, ls ByteArray.empty, li .i64 0, ls ByteArray.empty, li .i64 0, ls ByteArray.empty])) :: ((6, some (.cells [li .i64 a1.ID, li .u8 (bitsI .or .u8 i1 (shlI .u8 2 0)), li .i64 i2, li .i64 i3, li .i64 a1.F.a0.N, ls a1.F.a0.Text, li .i64 0, ls ByteArray.empty, li .i64 0, ls ByteArray.empty, li .i64 0, ls ByteArray.empty])) :: [])))) (by kernel_rfl) (by kernel_rfl) (by kernel_rfl) ?_
      exact F19_u8_ok n a0 a1 i2 i3 (bitsI .or .u8 i1 (shlI .u8 2 0)) a1.F.a0.N a1.F.a0.Text
    · refine Sim.skip ?_
      refine SimE.blockN ?_
      refine SimE.thenN ?_
      refine Sim.region0 ?_
      refine SimI.run 3 [(7, .one (li .i64 1)), (23, .one (li .i64 1)), (22, .one (li .i64 0))] [] (by kernel_rfl) ?_
      refine SimI.done (by kernel_rfl) ?_
      refine SimE.loopN ?_
      refine SimL.pre (ts := [2, 3, 4, 6, 7]) (os := [2, 3, 4, 6]) [(2, .one (.ptr 2 0)), (3, .one (.ptr 3 0)), (4, .one (.ptr 4 0)), (6, .one (.ptr 6 0)), (7, .one (li .i64 1))] ((2, some (.cells [li .i64 a0.ID, li .i64 a0.At.X, li .i64 a0.At.Y, li .i64 a0.F.a0.N, ls a0.F.a0.Text, li .i64 a0.F.a1.N, ls a0.F.a1.Text, li .i64 a0.F.a2.N, ls a0.F.a2.Text, li .i64 a0.F.a3.N, ls a0.F.a3.Text])) :: ((3, some (.cells [li .i64 a1.ID, li .i64 a1.At.X, li .i64 a1.At.Y, li .i64 a1.F.a0.N, ls a1.F.a0.Text, li .i64 a1.F.a1.N, ls a1.F.a1.Text, li .i64 a1.F.a2.N, ls a1.F.a2.Text, li .i64 a1.F.a3.N, ls a1.F.a3.Text])) :: ((4, some (.cells [li .i64 0, li .u8 0, li .i64 0, li .i64 0, li .i64 0, ls ByteArray.empty, li .i64 0, ls ByteArray.empty, li .i64 0, ls ByteArray.empty, li .i64 0, ls ByteArray.empty])) :: ((6, some (.cells [li .i64 a1.ID, li .u8 i1, li .i64 i2, li .i64 i3, li .i64 0, ls ByteArray.empty, li .i64 0, ls ByteArray.empty, li .i64 0, ls ByteArray.empty, li .i64 0, ls ByteArray.empty])) :: [])))) (by kernel_rfl) (by kernel_rfl) (by kernel_rfl) ?_
      exact F19_u8_ok n a0 a1 i2 i3 i1 0 ByteArray.empty

def F19 (n : Nat) (a0 : Thing) (a1 : Thing) : Option (Delta × Bool) :=
  if !(Point.eqb a0.At a1.At) then
    F19_j4 n a0 a1 1 a1.At.X a1.At.Y
  else
    F19_j4 n a0 a1 0 0 0
theorem F19_ok (n : Nat) (a0 : Thing) (a1 : Thing) : ∀ r, F19 n a0 a1 = some r → D 19 [.agg [li .i64 a0.ID, li .i64 a0.At.X, li .i64 a0.At.Y, li .i64 a0.F.a0.N, ls a0.F.a0.Text, li .i64 a0.F.a1.N, ls a0.F.a1.Text, li .i64 a0.F.a2.N, ls a0.F.a2.Text, li .i64 a0.F.a3.N, ls a0.F.a3.Text], .agg [li .i64 a1.ID, li .i64 a1.At.X, li .i64 a1.At.Y, li .i64 a1.F.a0.N, ls a1.F.a0.Text, li .i64 a1.F.a1.N, ls a1.F.a1.Text, li .i64 a1.F.a2.N, ls a1.F.a2.Text, li .i64 a1.F.a3.N, ls a1.F.a3.Text]] [] = some (F19_e r) := by
  refine fn_to (D := D) (n := n + 8) (nt := 51) (rs := pc19_r) (c := pc19_c34) (L := [(0, .agg [li .i64 a0.ID, li .i64 a0.At.X, li .i64 a0.At.Y, li .i64 a0.F.a0.N, ls a0.F.a0.Text, li .i64 a0.F.a1.N, ls a0.F.a1.Text, li .i64 a0.F.a2.N, ls a0.F.a2.Text, li .i64 a0.F.a3.N, ls a0.F.a3.Text]), (1, .agg [li .i64 a1.ID, li .i64 a1.At.X, li .i64 a1.At.Y, li .i64 a1.F.a0.N, ls a1.F.a0.Text, li .i64 a1.F.a1.N, ls a1.F.a1.Text, li .i64 a1.F.a2.N, ls a1.F.a2.Text, li .i64 a1.F.a3.N, ls a1.F.a3.Text])]) (M := []) (k := 0) rfl rfl rfl rfl rfl rfl ?_
  unfold F19
  refine Sim.seq ?_
  refine Sim.region0 ?_
  refine SimI.run 4 [(5, .one (lb false)), (4, .one (.ptr 4 0)), (3, .one (.ptr 3 0)), (2, .one (.ptr 2 0))] [(4, some (.cells [li .i64 0, li .u8 0, li .i64 0, li .i64 0, li .i64 0, ls ByteArray.empty, li .i64 0, ls ByteArray.empty, li .i64 0, ls ByteArray.empty, li .i64 0, ls ByteArray.empty])), (3, some (.cells [li .i64 a1.ID, li .i64 a1.At.X, li .i64 a1.At.Y, li .i64 a1.F.a0.N, ls a1.F.a0.Text, li .i64 a1.F.a1.N, ls a1.F.a1.Text, li .i64 a1.F.a2.N, ls a1.F.a2.Text, li .i64 a1.F.a3.N, ls a1.F.a3.Text])), (2, some (.cells [li .i64 a0.ID, li .i64 a0.At.X, li .i64 a0.At.Y, li .i64 a0.F.a0.N, ls a0.F.a0.Text, li .i64 a0.F.a1.N, ls a0.F.a1.Text, li .i64 a0.F.a2.N, ls a0.F.a2.Text, li .i64 a0.F.a3.N, ls a0.F.a3.Text]))] (by kernel_rfl) ?_
  refine SimI.done (by kernel_rfl) ?_
  refine SimE.thenN ?_
  refine Sim.seq ?_
  refine Sim.region0 ?_
  refine SimI.run 5 [(6, .one (.ptr 6 0)), (10, .agg [li .i64 a1.ID, li .u8 0, li .i64 0, li .i64 0, li .i64 0, ls ByteArray.empty, li .i64 0, ls ByteArray.empty, li .i64 0, ls ByteArray.empty, li .i64 0, ls ByteArray.empty]), (9, .one (li .i64 a1.ID)), (8, .one (.ptr 3 0))] [(6, some (.cells [li .i64 a1.ID, li .u8 0, li .i64 0, li .i64 0, li .i64 0, ls ByteArray.empty, li .i64 0, ls ByteArray.empty, li .i64 0, ls ByteArray.empty, li .i64 0, ls ByteArray.empty])), (6, some (.cells [li .i64 0, li .u8 0, li .i64 0, li .i64 0, li .i64 0, ls ByteArray.empty, li .i64 0, ls ByteArray.empty, li .i64 0, ls ByteArray.empty, li .i64 0, ls ByteArray.empty]))] (by kernel_rfl) ?_
  refine SimI.done (by kernel_rfl) ?_
  refine SimE.thenN ?_
  refine Sim.seq ?_
  refine Sim.seq ?_
  refine Sim.region0 ?_
  refine SimI.run 4 [(14, .agg [li .i64 a1.At.X, li .i64 a1.At.Y]), (13, .one (.ptr 3 1)), (12, .agg [li .i64 a0.At.X, li .i64 a0.At.Y]), (11, .one (.ptr 2 1))] [] (by kernel_rfl) ?_
  refine SimI.step { dst := some 15, op := POp.prim (Prim.bin BinOp.neq 23 false false) [Operand.tmp 12, Operand.tmp 14], guard := none, hints := [] } [(15, .one (lb (!(Point.eqb a0.At a1.At))))] [] (by kernel_rfl) (pOp_eff (by kernel_rfl) (by kernel_rfl) (eff_prim (by kernel_rfl) (Point_eqn a0.At a1.At _ _))) ?_
  refine SimI.done (by kernel_rfl) ?_
  refine SimE.thenN ?_
  refine Sim.cond (!(Point.eqb a0.At a1.At)) (by kernel_rfl) ?_ ?_
  · refine Sim.region0 ?_
    refine SimI.run 6 [(19, .one (.ptr 6 2)), (18, .one (.ptr 6 1)), (17, .agg [li .i64 a1.At.X, li .i64 a1.At.Y]), (16, .one (.ptr 3 1))] [(6, some (.cells [li .i64 a1.ID, li .u8 1, li .i64 a1.At.X, li .i64 a1.At.Y, li .i64 0, ls ByteArray.empty, li .i64 0, ls ByteArray.empty, li .i64 0, ls ByteArray.empty, li .i64 0, ls ByteArray.empty])), (6, some (.cells [li .i64 a1.ID, li .u8 1, li .i64 0, li .i64 0, li .i64 0, ls ByteArray.empty, li .i64 0, ls ByteArray.empty, li .i64 0, ls ByteArray.empty, li .i64 0, ls ByteArray.empty]))] (by kernel_rfl) ?_
    refine SimI.done (by kernel_rfl) ?_
    refine SimE.thenN ?_
    refine Sim.pre (ts := [2, 3, 4, 6]) (os := [2, 3, 4, 6]) [(2, .one (.ptr 2 0)), (3, .one (.ptr 3 0)), (4, .one (.ptr 4 0)), (6, .one (.ptr 6 0))] ((2, some (.cells [li .i64 a0.ID, li .i64 a0.At.X, li .i64 a0.At.Y, li .i64 a0.F.a0.N, ls a0.F.a0.Text, li .i64 a0.F.a1.N, ls a0.F.a1.Text, li .i64 a0.F.a2.N, ls a0.F.a2.Text, li .i64 a0.F.a3.N, ls a0.F.a3.Text])) :: ((3, some (.cells [li .i64 a1.ID, li .i64 a1.At.X, li .i64 a1.At.Y, li .i64 a1.F.a0.N, ls a1.F.a0.Text, li .i64 a1.F.a1.N, ls a1.F.a1.Text, li .i64 a1.F.a2.N, ls a1.F.a2.Text, li .i64 a1.F.a3.N, ls a1.F.a3.Text])) :: ((4, some (.cells [li .i64 0, li .u8 0, li .i64 0, li .i64 0, li .i64 0, ls ByteArray.empty, li .i64 0, ls ByteArray.empty, li .i64 0, ls ByteArray.empty, li .i64 0, ls ByteArray.empty])) :: ((6, some (.cells [li .i64 a1.ID, li .u8 1, li .i64 a1.At.X, li .i64 a1.At.Y, li .i64 0, ls ByteArray.empty, li .i64 0, ls ByteArray.empty, li .i64 0, ls ByteArray.empty, li .i64 0, ls ByteArray.empty])) :: [])))) (by kernel_rfl) (by kernel_rfl) (by kernel_rfl) ?_
    exact F19_j4_ok n a0 a1 1 a1.At.X a1.At.Y
  · refine Sim.skip ?_
    refine SimE.thenN ?_
    refine Sim.pre (ts := [2, 3, 4, 6]) (os := [2, 3, 4, 6]) [(2, .one (.ptr 2 0)), (3, .one (.ptr 3 0)), (4, .one (.ptr 4 0)), (6, .one (.ptr 6 0))] ((2, some (.cells [li .i64 a0.ID, li .i64 a0.At.X, li .i64 a0.At.Y, li .i64 a0.F.a0.N, ls a0.F.a0.Text, li .i64 a0.F.a1.N, ls a0.F.a1.Text, li .i64 a0.F.a2.N, ls a0.F.a2.Text, li .i64 a0.F.a3.N, ls a0.F.a3.Text])) :: ((3, some (.cells [li .i64 a1.ID, li .i64 a1.At.X, li .i64 a1.At.Y, li .i64 a1.F.a0.N, ls a1.F.a0.Text, li .i64 a1.F.a1.N, ls a1.F.a1.Text, li .i64 a1.F.a2.N, ls a1.F.a2.Text, li .i64 a1.F.a3.N, ls a1.F.a3.Text])) :: ((4, some (.cells [li .i64 0, li .u8 0, li .i64 0, li .i64 0, li .i64 0, ls ByteArray.empty, li .i64 0, ls ByteArray.empty, li .i64 0, ls ByteArray.empty, li .i64 0, ls ByteArray.empty])) :: ((6, some (.cells [li .i64 a1.ID, li .u8 0, li .i64 0, li .i64 0, li .i64 0, ls ByteArray.empty, li .i64 0, ls ByteArray.empty, li .i64 0, ls ByteArray.empty, li .i64 0, ls ByteArray.empty])) :: [])))) (by kernel_rfl) (by kernel_rfl) (by kernel_rfl) ?_
    exact F19_j4_ok n a0 a1 0 0 0


-- 27: vedette/vedetteref6.IsField
def F27_e : Bool → PV × List (List Lf) := fun r => (.one (lb r), [])
def F27 (n : Nat) (a0 : Field) : Option Bool :=
  if a0.N == 0 then
    some (decide ((a0.Text.size : Int) ≤ 12))
  else
    if a0.Text.toList == ByteArray.empty.toList then
      some (decide ((a0.Text.size : Int) ≤ 12))
    else
      some false
theorem F27_ok (n : Nat) (a0 : Field) : ∀ r, F27 n a0 = some r → D 27 [.agg [li .i64 a0.N, ls a0.Text]] [] = some (F27_e r) := by
  refine fn_to (D := D) (n := n + 8) (nt := 17) (rs := pc27_r) (c := pc27_c5) (L := [(0, .agg [li .i64 a0.N, ls a0.Text])]) (M := []) (k := 0) rfl rfl rfl rfl rfl rfl ?_
  unfold F27
  refine Sim.seq ?_
  refine Sim.region0 ?_
  refine SimI.run 2 [(2, .one (lb false)), (1, .one (.ptr 1 0))] [(1, some (.cells [li .i64 a0.N, ls a0.Text]))] (by kernel_rfl) ?_
  refine SimI.done (by kernel_rfl) ?_
  refine SimE.thenN ?_
  refine Sim.seq ?_
  refine Sim.region0 ?_
  refine SimI.run 4 [(6, .one (lb (a0.N == 0))), (5, .one (lb (a0.N == 0))), (4, .one (li .i64 a0.N)), (3, .one (.ptr 1 0))] [] (by kernel_rfl) ?_
  refine SimI.split 6 (a0.N == 0) (by kernel_rfl) ?_ ?_
  · refine SimI.run 11 [(2, .one (lb (decide ((a0.Text.size : Int) ≤ 12)))), (16, .one (lb (decide ((a0.Text.size : Int) ≤ 12)))), (15, .one (lb (decide ((a0.Text.size : Int) ≤ 12)))), (14, .one (li .i64 (a0.Text.size : Int))), (13, .one (ls a0.Text)), (12, .one (.ptr 1 1)), (11, .one (lb true)), (10, .one (lb true)), (9, .tup []), (8, .tup []), (7, .tup [])] [] (by kernel_rfl) ?_
    refine SimI.done (by kernel_rfl) ?_
    refine SimE.thenN ?_
    refine Sim.ret ?_
    exact SimE.fin (by kernel_rfl)
  · refine SimI.run 5 [(11, .one (lb (a0.Text.toList == ByteArray.empty.toList))), (10, .one (lb (a0.Text.toList == ByteArray.empty.toList))), (9, .one (lb (a0.Text.toList == ByteArray.empty.toList))), (8, .one (ls a0.Text)), (7, .one (.ptr 1 1))] [] (by kernel_rfl) ?_
    refine SimI.split 11 (a0.Text.toList == ByteArray.empty.toList) (by kernel_rfl) ?_ ?_
    · refine SimI.run 6 [(2, .one (lb (decide ((a0.Text.size : Int) ≤ 12)))), (16, .one (lb (decide ((a0.Text.size : Int) ≤ 12)))), (15, .one (lb (decide ((a0.Text.size : Int) ≤ 12)))), (14, .one (li .i64 (a0.Text.size : Int))), (13, .one (ls a0.Text)), (12, .one (.ptr 1 1))] [] (by kernel_rfl) ?_
      refine SimI.done (by kernel_rfl) ?_
      refine SimE.thenN ?_
      refine Sim.ret ?_
      exact SimE.fin (by kernel_rfl)
    · refine SimI.run 6 [(2, .one (lb false)), (16, .one (lb false)), (15, .tup []), (14, .tup []), (13, .tup []), (12, .tup [])] [] (by kernel_rfl) ?_
      refine SimI.done (by kernel_rfl) ?_
      refine SimE.thenN ?_
      refine Sim.ret ?_
      exact SimE.fin (by kernel_rfl)


-- 46: vedette/vedetteref3.On
def F46_e : Bool → PV × List (List Lf) := fun r => (.one (lb r), [])
def F46 (n : Nat) (a0 : Point) : Option Bool :=
  if decide ((0 : Int) ≤ a0.X) then
    if decide (a0.X < 64) then
      if decide ((0 : Int) ≤ a0.Y) then
        some (decide (a0.Y < 64))
      else
        some false
    else
      some false
  else
    some false
theorem F46_ok (n : Nat) (a0 : Point) : ∀ r, F46 n a0 = some r → D 46 [.agg [li .i64 a0.X, li .i64 a0.Y]] [] = some (F46_e r) := by
  refine fn_to (D := D) (n := n + 8) (nt := 21) (rs := pc46_r) (c := pc46_c5) (L := [(0, .agg [li .i64 a0.X, li .i64 a0.Y])]) (M := []) (k := 0) rfl rfl rfl rfl rfl rfl ?_
  unfold F46
  refine Sim.seq ?_
  refine Sim.region0 ?_
  refine SimI.run 2 [(2, .one (lb false)), (1, .one (.ptr 1 0))] [(1, some (.cells [li .i64 a0.X, li .i64 a0.Y]))] (by kernel_rfl) ?_
  refine SimI.done (by kernel_rfl) ?_
  refine SimE.thenN ?_
  refine Sim.seq ?_
  refine Sim.region0 ?_
  refine SimI.run 4 [(6, .one (lb (decide ((0 : Int) ≤ a0.X)))), (5, .one (lb (decide ((0 : Int) ≤ a0.X)))), (4, .one (li .i64 a0.X)), (3, .one (.ptr 1 0))] [] (by kernel_rfl) ?_
  refine SimI.split 6 (decide ((0 : Int) ≤ a0.X)) (by kernel_rfl) ?_ ?_
  · refine SimI.run 5 [(11, .one (lb (decide (a0.X < 64)))), (10, .one (lb (decide (a0.X < 64)))), (9, .one (lb (decide (a0.X < 64)))), (8, .one (li .i64 a0.X)), (7, .one (.ptr 1 0))] [] (by kernel_rfl) ?_
    refine SimI.split 11 (decide (a0.X < 64)) (by kernel_rfl) ?_ ?_
    · refine SimI.run 5 [(16, .one (lb (decide ((0 : Int) ≤ a0.Y)))), (15, .one (lb (decide ((0 : Int) ≤ a0.Y)))), (14, .one (lb (decide ((0 : Int) ≤ a0.Y)))), (13, .one (li .i64 a0.Y)), (12, .one (.ptr 1 1))] [] (by kernel_rfl) ?_
      refine SimI.split 16 (decide ((0 : Int) ≤ a0.Y)) (by kernel_rfl) ?_ ?_
      · refine SimI.run 5 [(2, .one (lb (decide (a0.Y < 64)))), (20, .one (lb (decide (a0.Y < 64)))), (19, .one (lb (decide (a0.Y < 64)))), (18, .one (li .i64 a0.Y)), (17, .one (.ptr 1 1))] [] (by kernel_rfl) ?_
        refine SimI.done (by kernel_rfl) ?_
        refine SimE.thenN ?_
        refine Sim.ret ?_
        exact SimE.fin (by kernel_rfl)
      · refine SimI.run 5 [(2, .one (lb false)), (20, .one (lb false)), (19, .tup []), (18, .tup []), (17, .tup [])] [] (by kernel_rfl) ?_
        refine SimI.done (by kernel_rfl) ?_
        refine SimE.thenN ?_
        refine Sim.ret ?_
        exact SimE.fin (by kernel_rfl)
    · refine SimI.run 10 [(2, .one (lb false)), (20, .one (lb false)), (19, .tup []), (18, .tup []), (17, .tup []), (16, .one (lb false)), (15, .one (lb false)), (14, .tup []), (13, .tup []), (12, .tup [])] [] (by kernel_rfl) ?_
      refine SimI.done (by kernel_rfl) ?_
      refine SimE.thenN ?_
      refine Sim.ret ?_
      exact SimE.fin (by kernel_rfl)
  · refine SimI.run 15 [(2, .one (lb false)), (20, .one (lb false)), (19, .tup []), (18, .tup []), (17, .tup []), (16, .one (lb false)), (15, .one (lb false)), (14, .tup []), (13, .tup []), (12, .tup []), (11, .one (lb false)), (10, .one (lb false)), (9, .tup []), (8, .tup []), (7, .tup [])] [] (by kernel_rfl) ?_
    refine SimI.done (by kernel_rfl) ?_
    refine SimE.thenN ?_
    refine Sim.ret ?_
    exact SimE.fin (by kernel_rfl)


-- 21: vedette/vedetteref6.IsDelta
def F21_e : Bool → PV × List (List Lf) := fun r => (.one (lb r), [])
def F21_u10 (n : Nat) : Option Bool :=
    some true
theorem F21_u10_ok (n : Nat) (a0 : Delta) : SimL Try.prog D (n + 8) (n + 4) pc21_c32 [(1, .one (.ptr 1 0)), (3, .one (li .i64 4))] ((1, some (.cells [li .i64 a0.ID, li .u8 a0.Mask, li .i64 a0.At.X, li .i64 a0.At.Y, li .i64 a0.F.a0.N, ls a0.F.a0.Text, li .i64 a0.F.a1.N, ls a0.F.a1.Text, li .i64 a0.F.a2.N, ls a0.F.a2.Text, li .i64 a0.F.a3.N, ls a0.F.a3.Text])) :: []) (F21_u10 n) (QB 0 (QT Try.prog D (n + 8) pc21_c38 (QF pc21_r 0 F21_e))) := by
    unfold F21_u10
    refine SimL.succ ?_
    refine Sim.seq ?_
    refine Sim.seq ?_
    refine Sim.region [(1, .one (.ptr 1 0)), (3, .one (li .i64 4))] ((1, some (.cells [li .i64 a0.ID, li .u8 a0.Mask, li .i64 a0.At.X, li .i64 a0.At.Y, li .i64 a0.F.a0.N, ls a0.F.a0.Text, li .i64 a0.F.a1.N, ls a0.F.a1.Text, li .i64 a0.F.a2.N, ls a0.F.a2.Text, li .i64 a0.F.a3.N, ls a0.F.a3.Text])) :: []) (by kernel_rfl) ?_
    refine SimI.run 2 [(45, .one (lb false)), (44, .one (li .i64 4))] [] (by kernel_rfl) ?_
    refine SimI.done (by kernel_rfl) ?_
    refine SimE.thenN ?_
    refine Sim.condF (by kernel_rfl) ?_
    refine Sim.exit ?_
    refine SimE.thenX ?_
    refine SimE.loopX ?_
    refine SimE.blockX ?_
    refine SimE.thenN ?_
    refine Sim.seq ?_
    refine Sim.region0 ?_
    refine SimI.run 1 [(2, .one (lb true))] [] (by kernel_rfl) ?_
    refine SimI.done (by kernel_rfl) ?_
    refine SimE.thenN ?_
    refine Sim.ret ?_
    exact SimE.fin (by kernel_rfl)

def F21_u8 (n : Nat) (a0 : Delta) : Option Bool :=
    (F27 n a0.F.a3).bind fun (r9 : Bool) =>
    if !(r9) then
      some false
    else
      if (bitsI .and .u8 (shrI .u8 a0.Mask 4) 1) == 0 then
        if !(Field.eqb a0.F.a3 (Field.mk 0 ByteArray.empty)) then
          some false
        else
          F21_u10 n
      else
        F21_u10 n
theorem F21_u8_ok (n : Nat) (a0 : Delta) : SimL Try.prog D (n + 8) (n + 5) pc21_c32 [(1, .one (.ptr 1 0)), (3, .one (li .i64 3))] ((1, some (.cells [li .i64 a0.ID, li .u8 a0.Mask, li .i64 a0.At.X, li .i64 a0.At.Y, li .i64 a0.F.a0.N, ls a0.F.a0.Text, li .i64 a0.F.a1.N, ls a0.F.a1.Text, li .i64 a0.F.a2.N, ls a0.F.a2.Text, li .i64 a0.F.a3.N, ls a0.F.a3.Text])) :: []) (F21_u8 n a0) (QB 0 (QT Try.prog D (n + 8) pc21_c38 (QF pc21_r 0 F21_e))) := by
    unfold F21_u8
    refine SimL.succ ?_
    refine Sim.seq ?_
    refine Sim.seq ?_
    refine Sim.region [(1, .one (.ptr 1 0)), (3, .one (li .i64 3))] ((1, some (.cells [li .i64 a0.ID, li .u8 a0.Mask, li .i64 a0.At.X, li .i64 a0.At.Y, li .i64 a0.F.a0.N, ls a0.F.a0.Text, li .i64 a0.F.a1.N, ls a0.F.a1.Text, li .i64 a0.F.a2.N, ls a0.F.a2.Text, li .i64 a0.F.a3.N, ls a0.F.a3.Text])) :: []) (by kernel_rfl) ?_
    refine SimI.run 2 [(45, .one (lb true)), (44, .one (li .i64 3))] [] (by kernel_rfl) ?_
    refine SimI.done (by kernel_rfl) ?_
    refine SimE.thenN ?_
    refine Sim.condT (by kernel_rfl) ?_
    refine Sim.skip ?_
    refine SimE.thenN ?_
    refine Sim.seq ?_
    refine Sim.block ?_
    refine Sim.seq ?_
    refine Sim.region0 ?_
    refine SimI.run 4 [(51, .agg [li .i64 a0.F.a3.N, ls a0.F.a3.Text]), (50, .one (.ptr 1 10)), (49, .one (.ptr 1 4)), (48, .one (li .i64 3))] [] (by kernel_rfl) ?_
    refine SimI.bind (og := F27 n a0.F.a3) { dst := some 52, op := POp.call true [[]] 27 [Operand.tmp 51], guard := none, hints := [] } (fun r9 => [(52, .one (lb r9))]) (fun r9 => []) (by kernel_rfl) (fun r9 hr => pOp_eff (by kernel_rfl) (by kernel_rfl) (eff_call (ARGS := [.agg [li .i64 a0.F.a3.N, ls a0.F.a3.Text]]) (by kernel_rfl) (args_clean (by kernel_rfl) args_nil) (F27_ok n a0.F.a3 r9 hr) (by kernel_rfl))) (fun r9 => ?_)
    refine SimI.run 2 [(54, .one (lb (!(r9)))), (53, .one (lb (!(r9))))] [] (by kernel_rfl) ?_
    refine SimI.split 54 (!(r9)) (by kernel_rfl) ?_ ?_
    · refine SimI.run 17 [(71, .one (lb true)), (70, .tup []), (69, .tup []), (68, .tup []), (67, .tup []), (66, .tup []), (65, .tup []), (64, .tup []), (63, .tup []), (62, .tup []), (61, .tup []), (60, .tup []), (59, .tup []), (58, .tup []), (57, .tup []), (56, .tup []), (55, .tup [])] [] (by kernel_rfl) ?_
      refine SimI.done (by kernel_rfl) ?_
      refine SimE.thenN ?_
      refine Sim.condT (by kernel_rfl) ?_
      refine Sim.seq ?_
      refine Sim.region0 ?_
      refine SimI.run 1 [(2, .one (lb false))] [] (by kernel_rfl) ?_
      refine SimI.done (by kernel_rfl) ?_
      refine SimE.thenN ?_
      refine Sim.ret ?_
      refine SimE.blockR ?_
      refine SimE.thenR ?_
      refine SimE.loopR ?_
      refine SimE.blockR ?_
      refine SimE.thenR ?_
      exact SimE.fin (by kernel_rfl)
    · refine SimI.run 9 [(63, .one (lb ((bitsI .and .u8 (shrI .u8 a0.Mask 4) 1) == 0))), (62, .one (lb ((bitsI .and .u8 (shrI .u8 a0.Mask 4) 1) == 0))), (61, .one (li .u8 (bitsI .and .u8 (shrI .u8 a0.Mask 4) 1))), (60, .one (li .u8 (shrI .u8 a0.Mask 4))), (59, .one (li .u64 4)), (58, .one (li .i64 4)), (57, .one (li .i64 3)), (56, .one (li .u8 a0.Mask)), (55, .one (.ptr 1 1))] [] (by kernel_rfl) ?_
      refine SimI.split 63 ((bitsI .and .u8 (shrI .u8 a0.Mask 4) 1) == 0) (by kernel_rfl) ?_ ?_
      · refine SimI.run 5 [(68, .agg [li .i64 0, ls ByteArray.empty]), (67, .agg [li .i64 a0.F.a3.N, ls a0.F.a3.Text]), (66, .one (.ptr 1 10)), (65, .one (.ptr 1 4)), (64, .one (li .i64 3))] [] (by kernel_rfl) ?_
        refine SimI.step { dst := some 69, op := POp.prim (Prim.bin BinOp.neq 25 false false) [Operand.tmp 67, Operand.tmp 68], guard := some (63, true), hints := [] } [(69, .one (lb (!(Field.eqb a0.F.a3 (Field.mk 0 ByteArray.empty)))))] [] (by kernel_rfl) (pOp_eff (by kernel_rfl) (by kernel_rfl) (eff_prim (by kernel_rfl) (Field_eqn a0.F.a3 (Field.mk 0 ByteArray.empty) _ _))) ?_
        refine SimI.run 2 [(71, .one (lb (!(Field.eqb a0.F.a3 (Field.mk 0 ByteArray.empty))))), (70, .one (lb (!(Field.eqb a0.F.a3 (Field.mk 0 ByteArray.empty)))))] [] (by kernel_rfl) ?_
        refine SimI.done (by kernel_rfl) ?_
        refine SimE.thenN ?_
        refine Sim.cond (!(Field.eqb a0.F.a3 (Field.mk 0 ByteArray.empty))) (by kernel_rfl) ?_ ?_
        · refine Sim.seq ?_
          refine Sim.region0 ?_
          refine SimI.run 1 [(2, .one (lb false))] [] (by kernel_rfl) ?_
          refine SimI.done (by kernel_rfl) ?_
          refine SimE.thenN ?_
          refine Sim.ret ?_
          refine SimE.blockR ?_
          refine SimE.thenR ?_
          refine SimE.loopR ?_
          refine SimE.blockR ?_
          refine SimE.thenR ?_
          exact SimE.fin (by kernel_rfl)
        · refine Sim.skip ?_
          refine SimE.blockN ?_
          refine SimE.thenN ?_
          refine Sim.region0 ?_
          refine SimI.run 3 [(3, .one (li .i64 4)), (47, .one (li .i64 4)), (46, .one (li .i64 3))] [] (by kernel_rfl) ?_
          refine SimI.done (by kernel_rfl) ?_
          refine SimE.loopN ?_
          refine SimL.pre (ts := [1, 3]) (os := [1]) [(1, .one (.ptr 1 0)), (3, .one (li .i64 4))] ((1, some (.cells [li .i64 a0.ID, li .u8 a0.Mask, li .i64 a0.At.X, li .i64 a0.At.Y, li .i64 a0.F.a0.N, ls a0.F.a0.Text, li .i64 a0.F.a1.N, ls a0.F.a1.Text, li .i64 a0.F.a2.N, ls a0.F.a2.Text, li .i64 a0.F.a3.N, ls a0.F.a3.Text])) :: []) (by kernel_rfl) (by kernel_rfl) (by kernel_rfl) ?_
          exact F21_u10_ok n a0
      · refine SimI.run 8 [(71, .one (lb false)), (70, .one (lb false)), (69, .tup []), (68, .tup []), (67, .tup []), (66, .tup []), (65, .tup []), (64, .tup [])] [] (by kernel_rfl) ?_
        refine SimI.done (by kernel_rfl) ?_
        refine SimE.thenN ?_
        refine Sim.condF (by kernel_rfl) ?_
        refine Sim.skip ?_
        refine SimE.blockN ?_
        refine SimE.thenN ?_
        refine Sim.region0 ?_
        refine SimI.run 3 [(3, .one (li .i64 4)), (47, .one (li .i64 4)), (46, .one (li .i64 3))] [] (by kernel_rfl) ?_
        refine SimI.done (by kernel_rfl) ?_
        refine SimE.loopN ?_
        refine SimL.pre (ts := [1, 3]) (os := [1]) [(1, .one (.ptr 1 0)), (3, .one (li .i64 4))] ((1, some (.cells [li .i64 a0.ID, li .u8 a0.Mask, li .i64 a0.At.X, li .i64 a0.At.Y, li .i64 a0.F.a0.N, ls a0.F.a0.Text, li .i64 a0.F.a1.N, ls a0.F.a1.Text, li .i64 a0.F.a2.N, ls a0.F.a2.Text, li .i64 a0.F.a3.N, ls a0.F.a3.Text])) :: []) (by kernel_rfl) (by kernel_rfl) (by kernel_rfl) ?_
        exact F21_u10_ok n a0

def F21_u6 (n : Nat) (a0 : Delta) : Option Bool :=
    (F27 n a0.F.a2).bind fun (r7 : Bool) =>
    if !(r7) then
      some false
    else
      if (bitsI .and .u8 (shrI .u8 a0.Mask 3) 1) == 0 then
        if !(Field.eqb a0.F.a2 (Field.mk 0 ByteArray.empty)) then
          some false
        else
          F21_u8 n a0
      else
        F21_u8 n a0
theorem F21_u6_ok (n : Nat) (a0 : Delta) : SimL Try.prog D (n + 8) (n + 6) pc21_c32 [(1, .one (.ptr 1 0)), (3, .one (li .i64 2))] ((1, some (.cells [li .i64 a0.ID, li .u8 a0.Mask, li .i64 a0.At.X, li .i64 a0.At.Y, li .i64 a0.F.a0.N, ls a0.F.a0.Text, li .i64 a0.F.a1.N, ls a0.F.a1.Text, li .i64 a0.F.a2.N, ls a0.F.a2.Text, li .i64 a0.F.a3.N, ls a0.F.a3.Text])) :: []) (F21_u6 n a0) (QB 0 (QT Try.prog D (n + 8) pc21_c38 (QF pc21_r 0 F21_e))) := by
    unfold F21_u6
    refine SimL.succ ?_
    refine Sim.seq ?_
    refine Sim.seq ?_
    refine Sim.region [(1, .one (.ptr 1 0)), (3, .one (li .i64 2))] ((1, some (.cells [li .i64 a0.ID, li .u8 a0.Mask, li .i64 a0.At.X, li .i64 a0.At.Y, li .i64 a0.F.a0.N, ls a0.F.a0.Text, li .i64 a0.F.a1.N, ls a0.F.a1.Text, li .i64 a0.F.a2.N, ls a0.F.a2.Text, li .i64 a0.F.a3.N, ls a0.F.a3.Text])) :: []) (by kernel_rfl) ?_
    refine SimI.run 2 [(45, .one (lb true)), (44, .one (li .i64 2))] [] (by kernel_rfl) ?_
    refine SimI.done (by kernel_rfl) ?_
    refine SimE.thenN ?_
    refine Sim.condT (by kernel_rfl) ?_
    refine Sim.skip ?_
    refine SimE.thenN ?_
    refine Sim.seq ?_
    refine Sim.block ?_
    refine Sim.seq ?_
    refine Sim.region0 ?_
    refine SimI.run 4 [(51, .agg [li .i64 a0.F.a2.N, ls a0.F.a2.Text]), (50, .one (.ptr 1 8)), (49, .one (.ptr 1 4)), (48, .one (li .i64 2))] [] (by kernel_rfl) ?_
    refine SimI.bind (og := F27 n a0.F.a2) { dst := some 52, op := POp.call true [[]] 27 [Operand.tmp 51], guard := none, hints := [] } (fun r7 => [(52, .one (lb r7))]) (fun r7 => []) (by kernel_rfl) (fun r7 hr => pOp_eff (by kernel_rfl) (by kernel_rfl) (eff_call (ARGS := [.agg [li .i64 a0.F.a2.N, ls a0.F.a2.Text]]) (by kernel_rfl) (args_clean (by kernel_rfl) args_nil) (F27_ok n a0.F.a2 r7 hr) (by kernel_rfl))) (fun r7 => ?_)
    refine SimI.run 2 [(54, .one (lb (!(r7)))), (53, .one (lb (!(r7))))] [] (by kernel_rfl) ?_
    refine SimI.split 54 (!(r7)) (by kernel_rfl) ?_ ?_
    · refine SimI.run 17 [(71, .one (lb true)), (70, .tup []), (69, .tup []), (68, .tup []), (67, .tup []), (66, .tup []), (65, .tup []), (64, .tup []), (63, .tup []), (62, .tup []), (61, .tup []), (60, .tup []), (59, .tup []), (58, .tup []), (57, .tup []), (56, .tup []), (55, .tup [])] [] (by kernel_rfl) ?_
      refine SimI.done (by kernel_rfl) ?_
      refine SimE.thenN ?_
      refine Sim.condT (by kernel_rfl) ?_
      refine Sim.seq ?_
      refine Sim.region0 ?_
      refine SimI.run 1 [(2, .one (lb false))] [] (by kernel_rfl) ?_
      refine SimI.done (by kernel_rfl) ?_
      refine SimE.thenN ?_
      refine Sim.ret ?_
      refine SimE.blockR ?_
      refine SimE.thenR ?_
      refine SimE.loopR ?_
      refine SimE.blockR ?_
      refine SimE.thenR ?_
      exact SimE.fin (by kernel_rfl)
    · refine SimI.run 9 [(63, .one (lb ((bitsI .and .u8 (shrI .u8 a0.Mask 3) 1) == 0))), (62, .one (lb ((bitsI .and .u8 (shrI .u8 a0.Mask 3) 1) == 0))), (61, .one (li .u8 (bitsI .and .u8 (shrI .u8 a0.Mask 3) 1))), (60, .one (li .u8 (shrI .u8 a0.Mask 3))), (59, .one (li .u64 3)), (58, .one (li .i64 3)), (57, .one (li .i64 2)), (56, .one (li .u8 a0.Mask)), (55, .one (.ptr 1 1))] [] (by kernel_rfl) ?_
      refine SimI.split 63 ((bitsI .and .u8 (shrI .u8 a0.Mask 3) 1) == 0) (by kernel_rfl) ?_ ?_
      · refine SimI.run 5 [(68, .agg [li .i64 0, ls ByteArray.empty]), (67, .agg [li .i64 a0.F.a2.N, ls a0.F.a2.Text]), (66, .one (.ptr 1 8)), (65, .one (.ptr 1 4)), (64, .one (li .i64 2))] [] (by kernel_rfl) ?_
        refine SimI.step { dst := some 69, op := POp.prim (Prim.bin BinOp.neq 25 false false) [Operand.tmp 67, Operand.tmp 68], guard := some (63, true), hints := [] } [(69, .one (lb (!(Field.eqb a0.F.a2 (Field.mk 0 ByteArray.empty)))))] [] (by kernel_rfl) (pOp_eff (by kernel_rfl) (by kernel_rfl) (eff_prim (by kernel_rfl) (Field_eqn a0.F.a2 (Field.mk 0 ByteArray.empty) _ _))) ?_
        refine SimI.run 2 [(71, .one (lb (!(Field.eqb a0.F.a2 (Field.mk 0 ByteArray.empty))))), (70, .one (lb (!(Field.eqb a0.F.a2 (Field.mk 0 ByteArray.empty)))))] [] (by kernel_rfl) ?_
        refine SimI.done (by kernel_rfl) ?_
        refine SimE.thenN ?_
        refine Sim.cond (!(Field.eqb a0.F.a2 (Field.mk 0 ByteArray.empty))) (by kernel_rfl) ?_ ?_
        · refine Sim.seq ?_
          refine Sim.region0 ?_
          refine SimI.run 1 [(2, .one (lb false))] [] (by kernel_rfl) ?_
          refine SimI.done (by kernel_rfl) ?_
          refine SimE.thenN ?_
          refine Sim.ret ?_
          refine SimE.blockR ?_
          refine SimE.thenR ?_
          refine SimE.loopR ?_
          refine SimE.blockR ?_
          refine SimE.thenR ?_
          exact SimE.fin (by kernel_rfl)
        · refine Sim.skip ?_
          refine SimE.blockN ?_
          refine SimE.thenN ?_
          refine Sim.region0 ?_
          refine SimI.run 3 [(3, .one (li .i64 3)), (47, .one (li .i64 3)), (46, .one (li .i64 2))] [] (by kernel_rfl) ?_
          refine SimI.done (by kernel_rfl) ?_
          refine SimE.loopN ?_
          refine SimL.pre (ts := [1, 3]) (os := [1]) [(1, .one (.ptr 1 0)), (3, .one (li .i64 3))] ((1, some (.cells [li .i64 a0.ID, li .u8 a0.Mask, li .i64 a0.At.X, li .i64 a0.At.Y, li .i64 a0.F.a0.N, ls a0.F.a0.Text, li .i64 a0.F.a1.N, ls a0.F.a1.Text, li .i64 a0.F.a2.N, ls a0.F.a2.Text, li .i64 a0.F.a3.N, ls a0.F.a3.Text])) :: []) (by kernel_rfl) (by kernel_rfl) (by kernel_rfl) ?_
          exact F21_u8_ok n a0
      · refine SimI.run 8 [(71, .one (lb false)), (70, .one (lb false)), (69, .tup []), (68, .tup []), (67, .tup []), (66, .tup []), (65, .tup []), (64, .tup [])] [] (by kernel_rfl) ?_
        refine SimI.done (by kernel_rfl) ?_
        refine SimE.thenN ?_
        refine Sim.condF (by kernel_rfl) ?_
        refine Sim.skip ?_
        refine SimE.blockN ?_
        refine SimE.thenN ?_
        refine Sim.region0 ?_
        refine SimI.run 3 [(3, .one (li .i64 3)), (47, .one (li .i64 3)), (46, .one (li .i64 2))] [] (by kernel_rfl) ?_
        refine SimI.done (by kernel_rfl) ?_
        refine SimE.loopN ?_
        refine SimL.pre (ts := [1, 3]) (os := [1]) [(1, .one (.ptr 1 0)), (3, .one (li .i64 3))] ((1, some (.cells [li .i64 a0.ID, li .u8 a0.Mask, li .i64 a0.At.X, li .i64 a0.At.Y, li .i64 a0.F.a0.N, ls a0.F.a0.Text, li .i64 a0.F.a1.N, ls a0.F.a1.Text, li .i64 a0.F.a2.N, ls a0.F.a2.Text, li .i64 a0.F.a3.N, ls a0.F.a3.Text])) :: []) (by kernel_rfl) (by kernel_rfl) (by kernel_rfl) ?_
        exact F21_u8_ok n a0

def F21_u4 (n : Nat) (a0 : Delta) : Option Bool :=
    (F27 n a0.F.a1).bind fun (r5 : Bool) =>
    if !(r5) then
      some false
    else
      if (bitsI .and .u8 (shrI .u8 a0.Mask 2) 1) == 0 then
        if !(Field.eqb a0.F.a1 (Field.mk 0 ByteArray.empty)) then
          some false
        else
          F21_u6 n a0
      else
        F21_u6 n a0
theorem F21_u4_ok (n : Nat) (a0 : Delta) : SimL Try.prog D (n + 8) (n + 7) pc21_c32 [(1, .one (.ptr 1 0)), (3, .one (li .i64 1))] ((1, some (.cells [li .i64 a0.ID, li .u8 a0.Mask, li .i64 a0.At.X, li .i64 a0.At.Y, li .i64 a0.F.a0.N, ls a0.F.a0.Text, li .i64 a0.F.a1.N, ls a0.F.a1.Text, li .i64 a0.F.a2.N, ls a0.F.a2.Text, li .i64 a0.F.a3.N, ls a0.F.a3.Text])) :: []) (F21_u4 n a0) (QB 0 (QT Try.prog D (n + 8) pc21_c38 (QF pc21_r 0 F21_e))) := by
    unfold F21_u4
    refine SimL.succ ?_
    refine Sim.seq ?_
    refine Sim.seq ?_
    refine Sim.region [(1, .one (.ptr 1 0)), (3, .one (li .i64 1))] ((1, some (.cells [li .i64 a0.ID, li .u8 a0.Mask, li .i64 a0.At.X, li .i64 a0.At.Y, li .i64 a0.F.a0.N, ls a0.F.a0.Text, li .i64 a0.F.a1.N, ls a0.F.a1.Text, li .i64 a0.F.a2.N, ls a0.F.a2.Text, li .i64 a0.F.a3.N, ls a0.F.a3.Text])) :: []) (by kernel_rfl) ?_
    refine SimI.run 2 [(45, .one (lb true)), (44, .one (li .i64 1))] [] (by kernel_rfl) ?_
    refine SimI.done (by kernel_rfl) ?_
    refine SimE.thenN ?_
    refine Sim.condT (by kernel_rfl) ?_
    refine Sim.skip ?_
    refine SimE.thenN ?_
    refine Sim.seq ?_
    refine Sim.block ?_
    refine Sim.seq ?_
    refine Sim.region0 ?_
    refine SimI.run 4 [(51, .agg [li .i64 a0.F.a1.N, ls a0.F.a1.Text]), (50, .one (.ptr 1 6)), (49, .one (.ptr 1 4)), (48, .one (li .i64 1))] [] (by kernel_rfl) ?_
    refine SimI.bind (og := F27 n a0.F.a1) { dst := some 52, op := POp.call true [[]] 27 [Operand.tmp 51], guard := none, hints := [] } (fun r5 => [(52, .one (lb r5))]) (fun r5 => []) (by kernel_rfl) (fun r5 hr => pOp_eff (by kernel_rfl) (by kernel_rfl) (eff_call (ARGS := [.agg [li .i64 a0.F.a1.N, ls a0.F.a1.Text]]) (by kernel_rfl) (args_clean (by kernel_rfl) args_nil) (F27_ok n a0.F.a1 r5 hr) (by kernel_rfl))) (fun r5 => ?_)
    refine SimI.run 2 [(54, .one (lb (!(r5)))), (53, .one (lb (!(r5))))] [] (by kernel_rfl) ?_
    refine SimI.split 54 (!(r5)) (by kernel_rfl) ?_ ?_
    · refine SimI.run 17 [(71, .one (lb true)), (70, .tup []), (69, .tup []), (68, .tup []), (67, .tup []), (66, .tup []), (65, .tup []), (64, .tup []), (63, .tup []), (62, .tup []), (61, .tup []), (60, .tup []), (59, .tup []), (58, .tup []), (57, .tup []), (56, .tup []), (55, .tup [])] [] (by kernel_rfl) ?_
      refine SimI.done (by kernel_rfl) ?_
      refine SimE.thenN ?_
      refine Sim.condT (by kernel_rfl) ?_
      refine Sim.seq ?_
      refine Sim.region0 ?_
      refine SimI.run 1 [(2, .one (lb false))] [] (by kernel_rfl) ?_
      refine SimI.done (by kernel_rfl) ?_
      refine SimE.thenN ?_
      refine Sim.ret ?_
      refine SimE.blockR ?_
      refine SimE.thenR ?_
      refine SimE.loopR ?_
      refine SimE.blockR ?_
      refine SimE.thenR ?_
      exact SimE.fin (by kernel_rfl)
    · refine SimI.run 9 [(63, .one (lb ((bitsI .and .u8 (shrI .u8 a0.Mask 2) 1) == 0))), (62, .one (lb ((bitsI .and .u8 (shrI .u8 a0.Mask 2) 1) == 0))), (61, .one (li .u8 (bitsI .and .u8 (shrI .u8 a0.Mask 2) 1))), (60, .one (li .u8 (shrI .u8 a0.Mask 2))), (59, .one (li .u64 2)), (58, .one (li .i64 2)), (57, .one (li .i64 1)), (56, .one (li .u8 a0.Mask)), (55, .one (.ptr 1 1))] [] (by kernel_rfl) ?_
      refine SimI.split 63 ((bitsI .and .u8 (shrI .u8 a0.Mask 2) 1) == 0) (by kernel_rfl) ?_ ?_
      · refine SimI.run 5 [(68, .agg [li .i64 0, ls ByteArray.empty]), (67, .agg [li .i64 a0.F.a1.N, ls a0.F.a1.Text]), (66, .one (.ptr 1 6)), (65, .one (.ptr 1 4)), (64, .one (li .i64 1))] [] (by kernel_rfl) ?_
        refine SimI.step { dst := some 69, op := POp.prim (Prim.bin BinOp.neq 25 false false) [Operand.tmp 67, Operand.tmp 68], guard := some (63, true), hints := [] } [(69, .one (lb (!(Field.eqb a0.F.a1 (Field.mk 0 ByteArray.empty)))))] [] (by kernel_rfl) (pOp_eff (by kernel_rfl) (by kernel_rfl) (eff_prim (by kernel_rfl) (Field_eqn a0.F.a1 (Field.mk 0 ByteArray.empty) _ _))) ?_
        refine SimI.run 2 [(71, .one (lb (!(Field.eqb a0.F.a1 (Field.mk 0 ByteArray.empty))))), (70, .one (lb (!(Field.eqb a0.F.a1 (Field.mk 0 ByteArray.empty)))))] [] (by kernel_rfl) ?_
        refine SimI.done (by kernel_rfl) ?_
        refine SimE.thenN ?_
        refine Sim.cond (!(Field.eqb a0.F.a1 (Field.mk 0 ByteArray.empty))) (by kernel_rfl) ?_ ?_
        · refine Sim.seq ?_
          refine Sim.region0 ?_
          refine SimI.run 1 [(2, .one (lb false))] [] (by kernel_rfl) ?_
          refine SimI.done (by kernel_rfl) ?_
          refine SimE.thenN ?_
          refine Sim.ret ?_
          refine SimE.blockR ?_
          refine SimE.thenR ?_
          refine SimE.loopR ?_
          refine SimE.blockR ?_
          refine SimE.thenR ?_
          exact SimE.fin (by kernel_rfl)
        · refine Sim.skip ?_
          refine SimE.blockN ?_
          refine SimE.thenN ?_
          refine Sim.region0 ?_
          refine SimI.run 3 [(3, .one (li .i64 2)), (47, .one (li .i64 2)), (46, .one (li .i64 1))] [] (by kernel_rfl) ?_
          refine SimI.done (by kernel_rfl) ?_
          refine SimE.loopN ?_
          refine SimL.pre (ts := [1, 3]) (os := [1]) [(1, .one (.ptr 1 0)), (3, .one (li .i64 2))] ((1, some (.cells [li .i64 a0.ID, li .u8 a0.Mask, li .i64 a0.At.X, li .i64 a0.At.Y, li .i64 a0.F.a0.N, ls a0.F.a0.Text, li .i64 a0.F.a1.N, ls a0.F.a1.Text, li .i64 a0.F.a2.N, ls a0.F.a2.Text, li .i64 a0.F.a3.N, ls a0.F.a3.Text])) :: []) (by kernel_rfl) (by kernel_rfl) (by kernel_rfl) ?_
          exact F21_u6_ok n a0
      · refine SimI.run 8 [(71, .one (lb false)), (70, .one (lb false)), (69, .tup []), (68, .tup []), (67, .tup []), (66, .tup []), (65, .tup []), (64, .tup [])] [] (by kernel_rfl) ?_
        refine SimI.done (by kernel_rfl) ?_
        refine SimE.thenN ?_
        refine Sim.condF (by kernel_rfl) ?_
        refine Sim.skip ?_
        refine SimE.blockN ?_
        refine SimE.thenN ?_
        refine Sim.region0 ?_
        refine SimI.run 3 [(3, .one (li .i64 2)), (47, .one (li .i64 2)), (46, .one (li .i64 1))] [] (by kernel_rfl) ?_
        refine SimI.done (by kernel_rfl) ?_
        refine SimE.loopN ?_
        refine SimL.pre (ts := [1, 3]) (os := [1]) [(1, .one (.ptr 1 0)), (3, .one (li .i64 2))] ((1, some (.cells [li .i64 a0.ID, li .u8 a0.Mask, li .i64 a0.At.X, li .i64 a0.At.Y, li .i64 a0.F.a0.N, ls a0.F.a0.Text, li .i64 a0.F.a1.N, ls a0.F.a1.Text, li .i64 a0.F.a2.N, ls a0.F.a2.Text, li .i64 a0.F.a3.N, ls a0.F.a3.Text])) :: []) (by kernel_rfl) (by kernel_rfl) (by kernel_rfl) ?_
        exact F21_u6_ok n a0

def F21_j2 (n : Nat) (a0 : Delta) : Option Bool :=
    (F27 n a0.F.a0).bind fun (r3 : Bool) =>
    if !(r3) then
      some false
    else
      if (bitsI .and .u8 (shrI .u8 a0.Mask 1) 1) == 0 then
        if !(Field.eqb a0.F.a0 (Field.mk 0 ByteArray.empty)) then
          some false
        else
          F21_u4 n a0
      else
        F21_u4 n a0
theorem F21_j2_ok (n : Nat) (a0 : Delta) : Sim Try.prog D (n + 8) pc21_c39 [(1, .one (.ptr 1 0))] ((1, some (.cells [li .i64 a0.ID, li .u8 a0.Mask, li .i64 a0.At.X, li .i64 a0.At.Y, li .i64 a0.F.a0.N, ls a0.F.a0.Text, li .i64 a0.F.a1.N, ls a0.F.a1.Text, li .i64 a0.F.a2.N, ls a0.F.a2.Text, li .i64 a0.F.a3.N, ls a0.F.a3.Text])) :: []) (F21_j2 n a0) (QF pc21_r 0 F21_e) := by
    unfold F21_j2
    refine Sim.seq ?_
    refine Sim.seq ?_
    refine Sim.region [(1, .one (.ptr 1 0))] ((1, some (.cells [li .i64 a0.ID, li .u8 a0.Mask, li .i64 a0.At.X, li .i64 a0.At.Y, li .i64 a0.F.a0.N, ls a0.F.a0.Text, li .i64 a0.F.a1.N, ls a0.F.a1.Text, li .i64 a0.F.a2.N, ls a0.F.a2.Text, li .i64 a0.F.a3.N, ls a0.F.a3.Text])) :: []) (by kernel_rfl) ?_
    refine SimI.run 1 [(3, .one (li .i64 0))] [] (by kernel_rfl) ?_
    refine SimI.done (by kernel_rfl) ?_
    refine SimE.thenN ?_
    refine Sim.block ?_
    refine Sim.loop ?_
    refine SimL.succ ?_
    refine Sim.seq ?_
    refine Sim.seq ?_
    refine Sim.region [(1, .one (.ptr 1 0)), (3, .one (li .i64 0))] ((1, some (.cells [li .i64 a0.ID, li .u8 a0.Mask, li .i64 a0.At.X, li .i64 a0.At.Y, li .i64 a0.F.a0.N, ls a0.F.a0.Text, li .i64 a0.F.a1.N, ls a0.F.a1.Text, li .i64 a0.F.a2.N, ls a0.F.a2.Text, li .i64 a0.F.a3.N, ls a0.F.a3.Text])) :: []) (by kernel_rfl) ?_
    refine SimI.run 2 [(45, .one (lb true)), (44, .one (li .i64 0))] [] (by kernel_rfl) ?_
    refine SimI.done (by kernel_rfl) ?_
    refine SimE.thenN ?_
    refine Sim.condT (by kernel_rfl) ?_
    refine Sim.skip ?_
    refine SimE.thenN ?_
    refine Sim.seq ?_
    refine Sim.block ?_
    refine Sim.seq ?_
    refine Sim.region0 ?_
    refine SimI.run 4 [(51, .agg [li .i64 a0.F.a0.N, ls a0.F.a0.Text]), (50, .one (.ptr 1 4)), (49, .one (.ptr 1 4)), (48, .one (li .i64 0))] [] (by kernel_rfl) ?_
    refine SimI.bind (og := F27 n a0.F.a0) { dst := some 52, op := POp.call true [[]] 27 [Operand.tmp 51], guard := none, hints := [] } (fun r3 => [(52, .one (lb r3))]) (fun r3 => []) (by kernel_rfl) (fun r3 hr => pOp_eff (by kernel_rfl) (by kernel_rfl) (eff_call (ARGS := [.agg [li .i64 a0.F.a0.N, ls a0.F.a0.Text]]) (by kernel_rfl) (args_clean (by kernel_rfl) args_nil) (F27_ok n a0.F.a0 r3 hr) (by kernel_rfl))) (fun r3 => ?_)
    refine SimI.run 2 [(54, .one (lb (!(r3)))), (53, .one (lb (!(r3))))] [] (by kernel_rfl) ?_
    refine SimI.split 54 (!(r3)) (by kernel_rfl) ?_ ?_
    · refine SimI.run 17 [(71, .one (lb true)), (70, .tup []), (69, .tup []), (68, .tup []), (67, .tup []), (66, .tup []), (65, .tup []), (64, .tup []), (63, .tup []), (62, .tup []), (61, .tup []), (60, .tup []), (59, .tup []), (58, .tup []), (57, .tup []), (56, .tup []), (55, .tup [])] [] (by kernel_rfl) ?_
      refine SimI.done (by kernel_rfl) ?_
      refine SimE.thenN ?_
      refine Sim.condT (by kernel_rfl) ?_
      refine Sim.seq ?_
      refine Sim.region0 ?_
      refine SimI.run 1 [(2, .one (lb false))] [] (by kernel_rfl) ?_
      refine SimI.done (by kernel_rfl) ?_
      refine SimE.thenN ?_
      refine Sim.ret ?_
      refine SimE.blockR ?_
      refine SimE.thenR ?_
      refine SimE.loopR ?_
      refine SimE.blockR ?_
      refine SimE.thenR ?_
      exact SimE.fin (by kernel_rfl)
    · refine SimI.run 9 [(63, .one (lb ((bitsI .and .u8 (shrI .u8 a0.Mask 1) 1) == 0))), (62, .one (lb ((bitsI .and .u8 (shrI .u8 a0.Mask 1) 1) == 0))), (61, .one (li .u8 (bitsI .and .u8 (shrI .u8 a0.Mask 1) 1))), (60, .one (li .u8 (shrI .u8 a0.Mask 1))), (59, .one (li .u64 1)), (58, .one (li .i64 1)), (57, .one (li .i64 0)), (56, .one (li .u8 a0.Mask)), (55, .one (.ptr 1 1))] [] (by kernel_rfl) ?_
      refine SimI.split 63 ((bitsI .and .u8 (shrI .u8 a0.Mask 1) 1) == 0) (by kernel_rfl) ?_ ?_
      · refine SimI.run 5 [(68, .agg [li .i64 0, ls ByteArray.empty]), (67, .agg [li .i64 a0.F.a0.N, ls a0.F.a0.Text]), (66, .one (.ptr 1 4)), (65, .one (.ptr 1 4)), (64, .one (li .i64 0))] [] (by kernel_rfl) ?_
        refine SimI.step { dst := some 69, op := POp.prim (Prim.bin BinOp.neq 25 false false) [Operand.tmp 67, Operand.tmp 68], guard := some (63, true), hints := [] } [(69, .one (lb (!(Field.eqb a0.F.a0 (Field.mk 0 ByteArray.empty)))))] [] (by kernel_rfl) (pOp_eff (by kernel_rfl) (by kernel_rfl) (eff_prim (by kernel_rfl) (Field_eqn a0.F.a0 (Field.mk 0 ByteArray.empty) _ _))) ?_
        refine SimI.run 2 [(71, .one (lb (!(Field.eqb a0.F.a0 (Field.mk 0 ByteArray.empty))))), (70, .one (lb (!(Field.eqb a0.F.a0 (Field.mk 0 ByteArray.empty)))))] [] (by kernel_rfl) ?_
        refine SimI.done (by kernel_rfl) ?_
        refine SimE.thenN ?_
        refine Sim.cond (!(Field.eqb a0.F.a0 (Field.mk 0 ByteArray.empty))) (by kernel_rfl) ?_ ?_
        · refine Sim.seq ?_
          refine Sim.region0 ?_
          refine SimI.run 1 [(2, .one (lb false))] [] (by kernel_rfl) ?_
          refine SimI.done (by kernel_rfl) ?_
          refine SimE.thenN ?_
          refine Sim.ret ?_
          refine SimE.blockR ?_
          refine SimE.thenR ?_
          refine SimE.loopR ?_
          refine SimE.blockR ?_
          refine SimE.thenR ?_
          exact SimE.fin (by kernel_rfl)
        · refine Sim.skip ?_
          refine SimE.blockN ?_
          refine SimE.thenN ?_
          refine Sim.region0 ?_
          refine SimI.run 3 [(3, .one (li .i64 1)), (47, .one (li .i64 1)), (46, .one (li .i64 0))] [] (by kernel_rfl) ?_
          refine SimI.done (by kernel_rfl) ?_
          refine SimE.loopN ?_
          refine SimL.pre (ts := [1, 3]) (os := [1]) [(1, .one (.ptr 1 0)), (3, .one (li .i64 1))] ((1, some (.cells [li .i64 a0.ID, li .u8 a0.Mask, li .i64 a0.At.X, li .i64 a0.At.Y, li .i64 a0.F.a0.N, ls a0.F.a0.Text, li .i64 a0.F.a1.N, ls a0.F.a1.Text, li .i64 a0.F.a2.N, ls a0.F.a2.Text, li .i64 a0.F.a3.N, ls a0.F.a3.Text])) :: []) (by kernel_rfl) (by kernel_rfl) (by kernel_rfl) ?_
          exact F21_u4_ok n a0
      · refine SimI.run 8 [(71, .one (lb false)), (70, .one (lb false)), (69, .tup []), (68, .tup []), (67, .tup []), (66, .tup []), (65, .tup []), (64, .tup [])] [] (by kernel_rfl) ?_
        refine SimI.done (by kernel_rfl) ?_
        refine SimE.thenN ?_
        refine Sim.condF (by kernel_rfl) ?_
        refine Sim.skip ?_
        refine SimE.blockN ?_
        refine SimE.thenN ?_
        refine Sim.region0 ?_
        refine SimI.run 3 [(3, .one (li .i64 1)), (47, .one (li .i64 1)), (46, .one (li .i64 0))] [] (by kernel_rfl) ?_
        refine SimI.done (by kernel_rfl) ?_
        refine SimE.loopN ?_
        refine SimL.pre (ts := [1, 3]) (os := [1]) [(1, .one (.ptr 1 0)), (3, .one (li .i64 1))] ((1, some (.cells [li .i64 a0.ID, li .u8 a0.Mask, li .i64 a0.At.X, li .i64 a0.At.Y, li .i64 a0.F.a0.N, ls a0.F.a0.Text, li .i64 a0.F.a1.N, ls a0.F.a1.Text, li .i64 a0.F.a2.N, ls a0.F.a2.Text, li .i64 a0.F.a3.N, ls a0.F.a3.Text])) :: []) (by kernel_rfl) (by kernel_rfl) (by kernel_rfl) ?_
        exact F21_u4_ok n a0

def F21 (n : Nat) (a0 : Delta) : Option Bool :=
  if decide (a0.ID < 0) then
    some false
  else
    if decide ((1000000 : Int) < a0.ID) then
      some false
    else
      if decide (a0.Mask < 1) then
        some false
      else
        if decide ((31 : Int) < a0.Mask) then
          some false
        else
          if (bitsI .and .u8 a0.Mask 1) != 0 then
            (F46 n a0.At).bind fun (r1 : Bool) =>
            if !(r1) then
              some false
            else
              if (bitsI .and .u8 a0.Mask 1) == 0 then
                if !(Point.eqb a0.At (Point.mk 0 0)) then
                  some false
                else
                  F21_j2 n a0
              else
                F21_j2 n a0
          else
            if (bitsI .and .u8 a0.Mask 1) == 0 then
              if !(Point.eqb a0.At (Point.mk 0 0)) then
                some false
              else
                F21_j2 n a0
            else
              F21_j2 n a0
theorem F21_ok (n : Nat) (a0 : Delta) : ∀ r, F21 n a0 = some r → D 21 [.agg [li .i64 a0.ID, li .u8 a0.Mask, li .i64 a0.At.X, li .i64 a0.At.Y, li .i64 a0.F.a0.N, ls a0.F.a0.Text, li .i64 a0.F.a1.N, ls a0.F.a1.Text, li .i64 a0.F.a2.N, ls a0.F.a2.Text, li .i64 a0.F.a3.N, ls a0.F.a3.Text]] [] = some (F21_e r) := by
  refine fn_to (D := D) (n := n + 8) (nt := 72) (rs := pc21_r) (c := pc21_c42) (L := [(0, .agg [li .i64 a0.ID, li .u8 a0.Mask, li .i64 a0.At.X, li .i64 a0.At.Y, li .i64 a0.F.a0.N, ls a0.F.a0.Text, li .i64 a0.F.a1.N, ls a0.F.a1.Text, li .i64 a0.F.a2.N, ls a0.F.a2.Text, li .i64 a0.F.a3.N, ls a0.F.a3.Text])]) (M := []) (k := 0) rfl rfl rfl rfl rfl rfl ?_
  unfold F21
  refine Sim.seq ?_
  refine Sim.region0 ?_
  refine SimI.run 2 [(2, .one (lb false)), (1, .one (.ptr 1 0))] [(1, some (.cells [li .i64 a0.ID, li .u8 a0.Mask, li .i64 a0.At.X, li .i64 a0.At.Y, li .i64 a0.F.a0.N, ls a0.F.a0.Text, li .i64 a0.F.a1.N, ls a0.F.a1.Text, li .i64 a0.F.a2.N, ls a0.F.a2.Text, li .i64 a0.F.a3.N, ls a0.F.a3.Text]))] (by kernel_rfl) ?_
  refine SimI.done (by kernel_rfl) ?_
  refine SimE.thenN ?_
  refine Sim.seq ?_
  refine Sim.seq ?_
  refine Sim.region0 ?_
  refine SimI.run 4 [(7, .one (lb (decide (a0.ID < 0)))), (6, .one (lb (decide (a0.ID < 0)))), (5, .one (li .i64 a0.ID)), (4, .one (.ptr 1 0))] [] (by kernel_rfl) ?_
  refine SimI.split 7 (decide (a0.ID < 0)) (by kernel_rfl) ?_ ?_
  · refine SimI.run 14 [(21, .one (lb true)), (20, .tup []), (19, .tup []), (18, .tup []), (17, .one (lb true)), (16, .one (lb true)), (15, .tup []), (14, .tup []), (13, .tup []), (12, .one (lb true)), (11, .one (lb true)), (10, .tup []), (9, .tup []), (8, .tup [])] [] (by kernel_rfl) ?_
    refine SimI.done (by kernel_rfl) ?_
    refine SimE.thenN ?_
    refine Sim.condT (by kernel_rfl) ?_
    refine Sim.seq ?_
    refine Sim.region0 ?_
    refine SimI.run 1 [(2, .one (lb false))] [] (by kernel_rfl) ?_
    refine SimI.done (by kernel_rfl) ?_
    refine SimE.thenN ?_
    refine Sim.ret ?_
    refine SimE.thenR ?_
    exact SimE.fin (by kernel_rfl)
  · refine SimI.run 5 [(12, .one (lb (decide ((1000000 : Int) < a0.ID)))), (11, .one (lb (decide ((1000000 : Int) < a0.ID)))), (10, .one (lb (decide ((1000000 : Int) < a0.ID)))), (9, .one (li .i64 a0.ID)), (8, .one (.ptr 1 0))] [] (by kernel_rfl) ?_
    refine SimI.split 12 (decide ((1000000 : Int) < a0.ID)) (by kernel_rfl) ?_ ?_
    · refine SimI.run 9 [(21, .one (lb true)), (20, .tup []), (19, .tup []), (18, .tup []), (17, .one (lb true)), (16, .one (lb true)), (15, .tup []), (14, .tup []), (13, .tup [])] [] (by kernel_rfl) ?_
      refine SimI.done (by kernel_rfl) ?_
      refine SimE.thenN ?_
      refine Sim.condT (by kernel_rfl) ?_
      refine Sim.seq ?_
      refine Sim.region0 ?_
      refine SimI.run 1 [(2, .one (lb false))] [] (by kernel_rfl) ?_
      refine SimI.done (by kernel_rfl) ?_
      refine SimE.thenN ?_
      refine Sim.ret ?_
      refine SimE.thenR ?_
      exact SimE.fin (by kernel_rfl)
    · refine SimI.run 5 [(17, .one (lb (decide (a0.Mask < 1)))), (16, .one (lb (decide (a0.Mask < 1)))), (15, .one (lb (decide (a0.Mask < 1)))), (14, .one (li .u8 a0.Mask)), (13, .one (.ptr 1 1))] [] (by kernel_rfl) ?_
      refine SimI.split 17 (decide (a0.Mask < 1)) (by kernel_rfl) ?_ ?_
      · refine SimI.run 4 [(21, .one (lb true)), (20, .tup []), (19, .tup []), (18, .tup [])] [] (by kernel_rfl) ?_
        refine SimI.done (by kernel_rfl) ?_
        refine SimE.thenN ?_
        refine Sim.condT (by kernel_rfl) ?_
        refine Sim.seq ?_
        refine Sim.region0 ?_
        refine SimI.run 1 [(2, .one (lb false))] [] (by kernel_rfl) ?_
        refine SimI.done (by kernel_rfl) ?_
        refine SimE.thenN ?_
        refine Sim.ret ?_
        refine SimE.thenR ?_
        exact SimE.fin (by kernel_rfl)
      · refine SimI.run 4 [(21, .one (lb (decide ((31 : Int) < a0.Mask)))), (20, .one (lb (decide ((31 : Int) < a0.Mask)))), (19, .one (li .u8 a0.Mask)), (18, .one (.ptr 1 1))] [] (by kernel_rfl) ?_
        refine SimI.done (by kernel_rfl) ?_
        refine SimE.thenN ?_
        refine Sim.cond (decide ((31 : Int) < a0.Mask)) (by kernel_rfl) ?_ ?_
        · refine Sim.seq ?_
          refine Sim.region0 ?_
          refine SimI.run 1 [(2, .one (lb false))] [] (by kernel_rfl) ?_
          refine SimI.done (by kernel_rfl) ?_
          refine SimE.thenN ?_
          refine Sim.ret ?_
          refine SimE.thenR ?_
          exact SimE.fin (by kernel_rfl)
        · refine Sim.skip ?_
          refine SimE.thenN ?_
          refine Sim.seq ?_
          refine Sim.seq ?_
          refine Sim.region0 ?_
          refine SimI.run 5 [(26, .one (lb ((bitsI .and .u8 a0.Mask 1) != 0))), (25, .one (lb ((bitsI .and .u8 a0.Mask 1) != 0))), (24, .one (li .u8 (bitsI .and .u8 a0.Mask 1))), (23, .one (li .u8 a0.Mask)), (22, .one (.ptr 1 1))] [] (by kernel_rfl) ?_
          refine SimI.split 26 ((bitsI .and .u8 a0.Mask 1) != 0) (by kernel_rfl) ?_ ?_
          · refine SimI.run 2 [(28, .agg [li .i64 a0.At.X, li .i64 a0.At.Y]), (27, .one (.ptr 1 2))] [] (by kernel_rfl) ?_
            refine SimI.bind (og := F46 n a0.At) { dst := some 29, op := POp.call true [[]] 46 [Operand.tmp 28], guard := some (26, true), hints := [] } (fun r1 => [(29, .one (lb r1))]) (fun r1 => []) (by kernel_rfl) (fun r1 hr => pOp_eff (by kernel_rfl) (by kernel_rfl) (eff_call (ARGS := [.agg [li .i64 a0.At.X, li .i64 a0.At.Y]]) (by kernel_rfl) (args_clean (by kernel_rfl) args_nil) (F46_ok n a0.At r1 hr) (by kernel_rfl))) (fun r1 => ?_)
            refine SimI.run 3 [(32, .one (lb (!(r1)))), (31, .one (lb (!(r1)))), (30, .one (lb (!(r1))))] [] (by kernel_rfl) ?_
            refine SimI.split 32 (!(r1)) (by kernel_rfl) ?_ ?_
            · refine SimI.run 11 [(43, .one (lb true)), (42, .tup []), (41, .tup []), (40, .tup []), (39, .tup []), (38, .tup []), (37, .tup []), (36, .tup []), (35, .tup []), (34, .tup []), (33, .tup [])] [] (by kernel_rfl) ?_
              refine SimI.done (by kernel_rfl) ?_
              refine SimE.thenN ?_
              refine Sim.condT (by kernel_rfl) ?_
              refine Sim.seq ?_
              refine Sim.region0 ?_
              refine SimI.run 1 [(2, .one (lb false))] [] (by kernel_rfl) ?_
              refine SimI.done (by kernel_rfl) ?_
              refine SimE.thenN ?_
              refine Sim.ret ?_
              refine SimE.thenR ?_
              exact SimE.fin (by kernel_rfl)
            · refine SimI.run 5 [(37, .one (lb ((bitsI .and .u8 a0.Mask 1) == 0))), (36, .one (lb ((bitsI .and .u8 a0.Mask 1) == 0))), (35, .one (li .u8 (bitsI .and .u8 a0.Mask 1))), (34, .one (li .u8 a0.Mask)), (33, .one (.ptr 1 1))] [] (by kernel_rfl) ?_
              refine SimI.split 37 ((bitsI .and .u8 a0.Mask 1) == 0) (by kernel_rfl) ?_ ?_
              · refine SimI.run 3 [(40, .agg [li .i64 0, li .i64 0]), (39, .agg [li .i64 a0.At.X, li .i64 a0.At.Y]), (38, .one (.ptr 1 2))] [] (by kernel_rfl) ?_
                refine SimI.step { dst := some 41, op := POp.prim (Prim.bin BinOp.neq 23 false false) [Operand.tmp 39, Operand.tmp 40], guard := some (37, true), hints := [] } [(41, .one (lb (!(Point.eqb a0.At (Point.mk 0 0)))))] [] (by kernel_rfl) (pOp_eff (by kernel_rfl) (by kernel_rfl) (eff_prim (by kernel_rfl) (Point_eqn a0.At (Point.mk 0 0) _ _))) ?_
                refine SimI.run 2 [(43, .one (lb (!(Point.eqb a0.At (Point.mk 0 0))))), (42, .one (lb (!(Point.eqb a0.At (Point.mk 0 0)))))] [] (by kernel_rfl) ?_
                refine SimI.done (by kernel_rfl) ?_
                refine SimE.thenN ?_
                refine Sim.cond (!(Point.eqb a0.At (Point.mk 0 0))) (by kernel_rfl) ?_ ?_
                · refine Sim.seq ?_
                  refine Sim.region0 ?_
                  refine SimI.run 1 [(2, .one (lb false))] [] (by kernel_rfl) ?_
                  refine SimI.done (by kernel_rfl) ?_
                  refine SimE.thenN ?_
                  refine Sim.ret ?_
                  refine SimE.thenR ?_
                  exact SimE.fin (by kernel_rfl)
                · refine Sim.skip ?_
                  refine SimE.thenN ?_
                  refine Sim.pre (ts := [1]) (os := [1]) [(1, .one (.ptr 1 0))] ((1, some (.cells [li .i64 a0.ID, li .u8 a0.Mask, li .i64 a0.At.X, li .i64 a0.At.Y, li .i64 a0.F.a0.N, ls a0.F.a0.Text, li .i64 a0.F.a1.N, ls a0.F.a1.Text, li .i64 a0.F.a2.N, ls a0.F.a2.Text, li .i64 a0.F.a3.N, ls a0.F.a3.Text])) :: []) (by kernel_rfl) (by kernel_rfl) (by kernel_rfl) ?_
                  exact F21_j2_ok n a0
              · refine SimI.run 6 [(43, .one (lb false)), (42, .one (lb false)), (41, .tup []), (40, .tup []), (39, .tup []), (38, .tup [])] [] (by kernel_rfl) ?_
                refine SimI.done (by kernel_rfl) ?_
                refine SimE.thenN ?_
                refine Sim.condF (by kernel_rfl) ?_
                refine Sim.skip ?_
                refine SimE.thenN ?_
                refine Sim.pre (ts := [1]) (os := [1]) [(1, .one (.ptr 1 0))] ((1, some (.cells [li .i64 a0.ID, li .u8 a0.Mask, li .i64 a0.At.X, li .i64 a0.At.Y, li .i64 a0.F.a0.N, ls a0.F.a0.Text, li .i64 a0.F.a1.N, ls a0.F.a1.Text, li .i64 a0.F.a2.N, ls a0.F.a2.Text, li .i64 a0.F.a3.N, ls a0.F.a3.Text])) :: []) (by kernel_rfl) (by kernel_rfl) (by kernel_rfl) ?_
                exact F21_j2_ok n a0
          · refine SimI.run 11 [(37, .one (lb ((bitsI .and .u8 a0.Mask 1) == 0))), (36, .one (lb ((bitsI .and .u8 a0.Mask 1) == 0))), (35, .one (li .u8 (bitsI .and .u8 a0.Mask 1))), (34, .one (li .u8 a0.Mask)), (33, .one (.ptr 1 1)), (32, .one (lb false)), (31, .one (lb false)), (30, .tup []), (29, .tup []), (28, .tup []), (27, .tup [])] [] (by kernel_rfl) ?_
            refine SimI.split 37 ((bitsI .and .u8 a0.Mask 1) == 0) (by kernel_rfl) ?_ ?_
            · refine SimI.run 3 [(40, .agg [li .i64 0, li .i64 0]), (39, .agg [li .i64 a0.At.X, li .i64 a0.At.Y]), (38, .one (.ptr 1 2))] [] (by kernel_rfl) ?_
              refine SimI.step { dst := some 41, op := POp.prim (Prim.bin BinOp.neq 23 false false) [Operand.tmp 39, Operand.tmp 40], guard := some (37, true), hints := [] } [(41, .one (lb (!(Point.eqb a0.At (Point.mk 0 0)))))] [] (by kernel_rfl) (pOp_eff (by kernel_rfl) (by kernel_rfl) (eff_prim (by kernel_rfl) (Point_eqn a0.At (Point.mk 0 0) _ _))) ?_
              refine SimI.run 2 [(43, .one (lb (!(Point.eqb a0.At (Point.mk 0 0))))), (42, .one (lb (!(Point.eqb a0.At (Point.mk 0 0)))))] [] (by kernel_rfl) ?_
              refine SimI.done (by kernel_rfl) ?_
              refine SimE.thenN ?_
              refine Sim.cond (!(Point.eqb a0.At (Point.mk 0 0))) (by kernel_rfl) ?_ ?_
              · refine Sim.seq ?_
                refine Sim.region0 ?_
                refine SimI.run 1 [(2, .one (lb false))] [] (by kernel_rfl) ?_
                refine SimI.done (by kernel_rfl) ?_
                refine SimE.thenN ?_
                refine Sim.ret ?_
                refine SimE.thenR ?_
                exact SimE.fin (by kernel_rfl)
              · refine Sim.skip ?_
                refine SimE.thenN ?_
                refine Sim.pre (ts := [1]) (os := [1]) [(1, .one (.ptr 1 0))] ((1, some (.cells [li .i64 a0.ID, li .u8 a0.Mask, li .i64 a0.At.X, li .i64 a0.At.Y, li .i64 a0.F.a0.N, ls a0.F.a0.Text, li .i64 a0.F.a1.N, ls a0.F.a1.Text, li .i64 a0.F.a2.N, ls a0.F.a2.Text, li .i64 a0.F.a3.N, ls a0.F.a3.Text])) :: []) (by kernel_rfl) (by kernel_rfl) (by kernel_rfl) ?_
                exact F21_j2_ok n a0
            · refine SimI.run 6 [(43, .one (lb false)), (42, .one (lb false)), (41, .tup []), (40, .tup []), (39, .tup []), (38, .tup [])] [] (by kernel_rfl) ?_
              refine SimI.done (by kernel_rfl) ?_
              refine SimE.thenN ?_
              refine Sim.condF (by kernel_rfl) ?_
              refine Sim.skip ?_
              refine SimE.thenN ?_
              refine Sim.pre (ts := [1]) (os := [1]) [(1, .one (.ptr 1 0))] ((1, some (.cells [li .i64 a0.ID, li .u8 a0.Mask, li .i64 a0.At.X, li .i64 a0.At.Y, li .i64 a0.F.a0.N, ls a0.F.a0.Text, li .i64 a0.F.a1.N, ls a0.F.a1.Text, li .i64 a0.F.a2.N, ls a0.F.a2.Text, li .i64 a0.F.a3.N, ls a0.F.a3.Text])) :: []) (by kernel_rfl) (by kernel_rfl) (by kernel_rfl) ?_
              exact F21_j2_ok n a0


-- 47: vedette/vedetteref1.Put
def F47_e : ByteArray → PV × List (List Lf) := fun r => (.one (ls r), [])
def F47_l7 (n : Nat) : Nat → Int → ByteArray → Option ByteArray
  | 0, _, _ => none
  | m + 1, i5, s6 =>
    if decide (i5 < 128) then
      if s6.size + (mkStr [IntKind.wrap .u8 i5]).size ≤ 9223372036854775807 then
        some (s6 ++ (mkStr [IntKind.wrap .u8 i5]))
      else none
    else
      if s6.size + (mkStr [bitsI .or .u8 (IntKind.wrap .u8 (bitsI .and .u64 i5 127)) 128]).size ≤ 9223372036854775807 then
        (F47_l7 n m) (shrI .u64 i5 7) (s6 ++ (mkStr [bitsI .or .u8 (IntKind.wrap .u8 (bitsI .and .u64 i5 127)) 128]))
      else none
theorem F47_l7_ok (n : Nat) : ∀ (m : Nat) (i5 : Int) (s6 : ByteArray), SimL Try.prog D (n + 8) m pc47_c14 [(0, .one (li .u64 i5)), (3, .one (ls s6))] [] (F47_l7 n m i5 s6) (QB 0 (QF pc47_r 0 F47_e)) := by
  intro m_l7
  induction m_l7 with
  | zero => intro i5 s6; exact SimL.zero'  rfl
  | succ m_l7 ih_l7 =>
    intro i5 s6
    refine SimL.succ ?_
    unfold F47_l7
    refine Sim.block ?_
    refine Sim.seq ?_
    refine Sim.seq ?_
    refine Sim.region [(0, .one (li .u64 i5)), (3, .one (ls s6))] [] (by kernel_rfl) ?_
    refine SimI.run 2 [(5, .one (lb (decide (i5 < 128)))), (4, .one (li .u64 i5))] [] (by kernel_rfl) ?_
    refine SimI.done (by kernel_rfl) ?_
    refine SimE.thenN ?_
    refine Sim.cond (decide (i5 < 128)) (by kernel_rfl) ?_ ?_
    · refine Sim.seq ?_
      refine Sim.region0 ?_
      refine SimI.run 4 [(9, .one (vw (codI .u8) [IntKind.wrap .u8 i5])), (8, .one (li .u8 (IntKind.wrap .u8 i5))), (7, .one (li .u64 i5)), (6, .one (ls s6))] [] (by kernel_rfl) ?_
      refine SimI.step { dst := some 10, op := POp.b2s (Operand.tmp 9), guard := none, hints := [] } [(10, .one (ls (mkStr [IntKind.wrap .u8 i5])))] [] (by kernel_rfl) (pOp_eff (by kernel_rfl) (by kernel_rfl) (eff_b2s (l := [IntKind.wrap .u8 i5]) (by kernel_rfl))) ?_
      refine SimI.guard (c := s6.size + (mkStr [IntKind.wrap .u8 i5]).size ≤ 9223372036854775807) { dst := some 11, op := POp.prim (Prim.bin BinOp.add 9 false false) [Operand.tmp 6, Operand.tmp 10], guard := none, hints := [] } [(11, .one (ls (s6 ++ (mkStr [IntKind.wrap .u8 i5]))))] [] (by kernel_rfl) (fun hc => pOp_eff (by kernel_rfl) (by kernel_rfl) (eff_prim (by kernel_rfl) (pr_addS _ _ _ s6 (mkStr [IntKind.wrap .u8 i5]) hc))) ?_
      refine SimI.run 1 [(2, .one (ls (s6 ++ (mkStr [IntKind.wrap .u8 i5]))))] [] (by kernel_rfl) ?_
      refine SimI.done (by kernel_rfl) ?_
      refine SimE.thenN ?_
      refine Sim.ret ?_
      refine SimE.thenR ?_
      refine SimE.blockR ?_
      refine SimE.loopR ?_
      refine SimE.blockR ?_
      exact SimE.fin (by kernel_rfl)
    · refine Sim.skip ?_
      refine SimE.thenN ?_
      refine Sim.seq ?_
      refine Sim.region0 ?_
      refine SimI.run 6 [(17, .one (vw (codI .u8) [bitsI .or .u8 (IntKind.wrap .u8 (bitsI .and .u64 i5 127)) 128])), (16, .one (li .u8 (bitsI .or .u8 (IntKind.wrap .u8 (bitsI .and .u64 i5 127)) 128))), (15, .one (li .u8 (IntKind.wrap .u8 (bitsI .and .u64 i5 127)))), (14, .one (li .u64 (bitsI .and .u64 i5 127))), (13, .one (li .u64 i5)), (12, .one (ls s6))] [] (by kernel_rfl) ?_
      refine SimI.step { dst := some 18, op := POp.b2s (Operand.tmp 17), guard := none, hints := [] } [(18, .one (ls (mkStr [bitsI .or .u8 (IntKind.wrap .u8 (bitsI .and .u64 i5 127)) 128])))] [] (by kernel_rfl) (pOp_eff (by kernel_rfl) (by kernel_rfl) (eff_b2s (l := [bitsI .or .u8 (IntKind.wrap .u8 (bitsI .and .u64 i5 127)) 128]) (by kernel_rfl))) ?_
      refine SimI.guard (c := s6.size + (mkStr [bitsI .or .u8 (IntKind.wrap .u8 (bitsI .and .u64 i5 127)) 128]).size ≤ 9223372036854775807) { dst := some 19, op := POp.prim (Prim.bin BinOp.add 9 false false) [Operand.tmp 12, Operand.tmp 18], guard := none, hints := [] } [(19, .one (ls (s6 ++ (mkStr [bitsI .or .u8 (IntKind.wrap .u8 (bitsI .and .u64 i5 127)) 128]))))] [] (by kernel_rfl) (fun hc => pOp_eff (by kernel_rfl) (by kernel_rfl) (eff_prim (by kernel_rfl) (pr_addS _ _ _ s6 (mkStr [bitsI .or .u8 (IntKind.wrap .u8 (bitsI .and .u64 i5 127)) 128]) hc))) ?_
      refine SimI.run 1 [(3, .one (ls (s6 ++ (mkStr [bitsI .or .u8 (IntKind.wrap .u8 (bitsI .and .u64 i5 127)) 128]))))] [] (by kernel_rfl) ?_
      refine SimI.done (by kernel_rfl) ?_
      refine SimE.thenN ?_
      refine Sim.region0 ?_
      refine SimI.run 3 [(0, .one (li .u64 (shrI .u64 i5 7))), (21, .one (li .u64 (shrI .u64 i5 7))), (20, .one (li .u64 i5))] [] (by kernel_rfl) ?_
      refine SimI.done (by kernel_rfl) ?_
      refine SimE.blockN ?_
      refine SimE.loopN ?_
      refine SimL.pre (ts := [0, 3]) (os := []) [(0, .one (li .u64 (shrI .u64 i5 7))), (3, .one (ls (s6 ++ (mkStr [bitsI .or .u8 (IntKind.wrap .u8 (bitsI .and .u64 i5 127)) 128]))))] [] (by kernel_rfl) (by kernel_rfl) (by kernel_rfl) ?_
      exact ih_l7 (shrI .u64 i5 7) (s6 ++ (mkStr [bitsI .or .u8 (IntKind.wrap .u8 (bitsI .and .u64 i5 127)) 128]))

def F47 (n : Nat) (a0 : Int) : Option ByteArray :=
  F47_l7 n (n + 8) a0 ByteArray.empty
theorem F47_ok (n : Nat) (a0 : Int) : ∀ r, F47 n a0 = some r → D 47 [.one (li .u64 a0)] [] = some (F47_e r) := by
  refine fn_to (D := D) (n := n + 8) (nt := 22) (rs := pc47_r) (c := pc47_c18) (L := [(0, .one (li .u64 a0))]) (M := []) (k := 0) rfl rfl rfl rfl rfl rfl ?_
  unfold F47
  refine Sim.seq ?_
  refine Sim.region0 ?_
  refine SimI.run 1 [(2, .one (ls ByteArray.empty))] [] (by kernel_rfl) ?_
  refine SimI.done (by kernel_rfl) ?_
  refine SimE.thenN ?_
  refine Sim.seq ?_
  refine Sim.region0 ?_
  refine SimI.run 1 [(3, .one (ls ByteArray.empty))] [] (by kernel_rfl) ?_
  refine SimI.done (by kernel_rfl) ?_
  refine SimE.thenN ?_
  refine Sim.block ?_
  refine Sim.loop ?_
  refine SimL.pre (ts := [0, 3]) (os := []) [(0, .one (li .u64 a0)), (3, .one (ls ByteArray.empty))] [] (by kernel_rfl) (by kernel_rfl) (by kernel_rfl) ?_
  exact F47_l7_ok n (n + 8) a0 ByteArray.empty


-- 48: vedette/vedetteref1.Text
def F48_e : ByteArray → PV × List (List Lf) := fun r => (.one (ls r), [])
def F48 (n : Nat) (a0 : ByteArray) : Option ByteArray :=
  (F47 n (IntKind.wrap .u64 (a0.size : Int))).bind fun (r1 : ByteArray) =>
  if r1.size + a0.size ≤ 9223372036854775807 then
    some (r1 ++ a0)
  else none
theorem F48_ok (n : Nat) (a0 : ByteArray) : ∀ r, F48 n a0 = some r → D 48 [.one (ls a0)] [] = some (F48_e r) := by
  refine fn_to (D := D) (n := n + 8) (nt := 9) (rs := pc48_r) (c := pc48_c5) (L := [(0, .one (ls a0))]) (M := []) (k := 0) rfl rfl rfl rfl rfl rfl ?_
  unfold F48
  refine Sim.seq ?_
  refine Sim.region0 ?_
  refine SimI.run 1 [(2, .one (ls ByteArray.empty))] [] (by kernel_rfl) ?_
  refine SimI.done (by kernel_rfl) ?_
  refine SimE.thenN ?_
  refine Sim.seq ?_
  refine Sim.region0 ?_
  refine SimI.run 3 [(5, .one (li .u64 (IntKind.wrap .u64 (a0.size : Int)))), (4, .one (li .i64 (a0.size : Int))), (3, .one (ls a0))] [] (by kernel_rfl) ?_
  refine SimI.bind (og := F47 n (IntKind.wrap .u64 (a0.size : Int))) { dst := some 6, op := POp.call true [[]] 47 [Operand.tmp 5], guard := none, hints := [] } (fun r1 => [(6, .one (ls r1))]) (fun r1 => []) (by kernel_rfl) (fun r1 hr => pOp_eff (by kernel_rfl) (by kernel_rfl) (eff_call (ARGS := [.one (li .u64 (IntKind.wrap .u64 (a0.size : Int)))]) (by kernel_rfl) (args_clean (by kernel_rfl) args_nil) (F47_ok n (IntKind.wrap .u64 (a0.size : Int)) r1 hr) (by kernel_rfl))) (fun r1 => ?_)
  refine SimI.run 1 [(7, .one (ls a0))] [] (by kernel_rfl) ?_
  refine SimI.guard (c := r1.size + a0.size ≤ 9223372036854775807) { dst := some 8, op := POp.prim (Prim.bin BinOp.add 9 false false) [Operand.tmp 6, Operand.tmp 7], guard := none, hints := [] } [(8, .one (ls (r1 ++ a0)))] [] (by kernel_rfl) (fun hc => pOp_eff (by kernel_rfl) (by kernel_rfl) (eff_prim (by kernel_rfl) (pr_addS _ _ _ r1 a0 hc))) ?_
  refine SimI.run 1 [(2, .one (ls (r1 ++ a0)))] [] (by kernel_rfl) ?_
  refine SimI.done (by kernel_rfl) ?_
  refine SimE.thenN ?_
  refine Sim.ret ?_
  exact SimE.fin (by kernel_rfl)


-- 69: vedette/vedetteref1.Zig
def F69_e : Int → PV × List (List Lf) := fun r => (.one (li .u64 r), [])
def F69 (n : Nat) (a0 : Int) : Option Int :=
  some (bitsI .xor .u64 (shlI .u64 (IntKind.wrap .u64 a0) 1) (IntKind.wrap .u64 (shrI .i64 a0 63)))
theorem F69_ok (n : Nat) (a0 : Int) : ∀ r, F69 n a0 = some r → D 69 [.one (li .i64 a0)] [] = some (F69_e r) := by
  refine fn_to (D := D) (n := n + 8) (nt := 10) (rs := pc69_r) (c := pc69_c5) (L := [(0, .one (li .i64 a0))]) (M := []) (k := 0) rfl rfl rfl rfl rfl rfl ?_
  unfold F69
  refine Sim.seq ?_
  refine Sim.region0 ?_
  refine SimI.run 1 [(2, .one (li .u64 0))] [] (by kernel_rfl) ?_
  refine SimI.done (by kernel_rfl) ?_
  refine SimE.thenN ?_
  refine Sim.seq ?_
  refine Sim.region0 ?_
  refine SimI.run 8 [(2, .one (li .u64 (bitsI .xor .u64 (shlI .u64 (IntKind.wrap .u64 a0) 1) (IntKind.wrap .u64 (shrI .i64 a0 63))))), (9, .one (li .u64 (bitsI .xor .u64 (shlI .u64 (IntKind.wrap .u64 a0) 1) (IntKind.wrap .u64 (shrI .i64 a0 63))))), (8, .one (li .u64 (IntKind.wrap .u64 (shrI .i64 a0 63)))), (7, .one (li .i64 (shrI .i64 a0 63))), (6, .one (li .i64 a0)), (5, .one (li .u64 (shlI .u64 (IntKind.wrap .u64 a0) 1))), (4, .one (li .u64 (IntKind.wrap .u64 a0))), (3, .one (li .i64 a0))] [] (by kernel_rfl) ?_
  refine SimI.done (by kernel_rfl) ?_
  refine SimE.thenN ?_
  refine Sim.ret ?_
  exact SimE.fin (by kernel_rfl)


-- 49: vedette/vedetteref1.Int
def F49_e : ByteArray → PV × List (List Lf) := fun r => (.one (ls r), [])
def F49 (n : Nat) (a0 : Int) : Option ByteArray :=
  (F69 n a0).bind fun (r1 : Int) =>
  (F47 n r1).bind fun (r2 : ByteArray) =>
  some r2
theorem F49_ok (n : Nat) (a0 : Int) : ∀ r, F49 n a0 = some r → D 49 [.one (li .i64 a0)] [] = some (F49_e r) := by
  refine fn_to (D := D) (n := n + 8) (nt := 6) (rs := pc49_r) (c := pc49_c5) (L := [(0, .one (li .i64 a0))]) (M := []) (k := 0) rfl rfl rfl rfl rfl rfl ?_
  unfold F49
  refine Sim.seq ?_
  refine Sim.region0 ?_
  refine SimI.run 1 [(2, .one (ls ByteArray.empty))] [] (by kernel_rfl) ?_
  refine SimI.done (by kernel_rfl) ?_
  refine SimE.thenN ?_
  refine Sim.seq ?_
  refine Sim.region0 ?_
  refine SimI.run 1 [(3, .one (li .i64 a0))] [] (by kernel_rfl) ?_
  refine SimI.bind (og := F69 n a0) { dst := some 4, op := POp.call true [[]] 69 [Operand.tmp 3], guard := none, hints := [] } (fun r1 => [(4, .one (li .u64 r1))]) (fun r1 => []) (by kernel_rfl) (fun r1 hr => pOp_eff (by kernel_rfl) (by kernel_rfl) (eff_call (ARGS := [.one (li .i64 a0)]) (by kernel_rfl) (args_clean (by kernel_rfl) args_nil) (F69_ok n a0 r1 hr) (by kernel_rfl))) (fun r1 => ?_)
  refine SimI.bind (og := F47 n r1) { dst := some 5, op := POp.call true [[]] 47 [Operand.tmp 4], guard := none, hints := [] } (fun r2 => [(5, .one (ls r2))]) (fun r2 => []) (by kernel_rfl) (fun r2 hr => pOp_eff (by kernel_rfl) (by kernel_rfl) (eff_call (ARGS := [.one (li .u64 r1)]) (by kernel_rfl) (args_clean (by kernel_rfl) args_nil) (F47_ok n r1 r2 hr) (by kernel_rfl))) (fun r2 => ?_)
  refine SimI.run 1 [(2, .one (ls r2))] [] (by kernel_rfl) ?_
  refine SimI.done (by kernel_rfl) ?_
  refine SimE.thenN ?_
  refine Sim.ret ?_
  exact SimE.fin (by kernel_rfl)


-- 22: vedette/vedetteref6.Bytes
def F22_e : ByteArray → PV × List (List Lf) := fun r => (.one (ls r), [])
def F22_u22 (n : Nat) (s21 : ByteArray) : Option ByteArray :=
    some s21
theorem F22_u22_ok (n : Nat) (a0 : Delta) (s21 : ByteArray) : SimL Try.prog D (n + 8) (n + 4) pc22_c28 [(1, .one (.ptr 1 0)), (3, .one (ls s21)), (4, .one (li .i64 4))] ((1, some (.cells [li .i64 a0.ID, li .u8 a0.Mask, li .i64 a0.At.X, li .i64 a0.At.Y, li .i64 a0.F.a0.N, ls a0.F.a0.Text, li .i64 a0.F.a1.N, ls a0.F.a1.Text, li .i64 a0.F.a2.N, ls a0.F.a2.Text, li .i64 a0.F.a3.N, ls a0.F.a3.Text])) :: []) (F22_u22 n s21) (QB 0 (QT Try.prog D (n + 8) pc22_c34 (QF pc22_r 0 F22_e))) := by
    unfold F22_u22
    refine SimL.succ ?_
    refine Sim.seq ?_
    refine Sim.seq ?_
    refine Sim.region [(1, .one (.ptr 1 0)), (3, .one (ls s21)), (4, .one (li .i64 4))] ((1, some (.cells [li .i64 a0.ID, li .u8 a0.Mask, li .i64 a0.At.X, li .i64 a0.At.Y, li .i64 a0.F.a0.N, ls a0.F.a0.Text, li .i64 a0.F.a1.N, ls a0.F.a1.Text, li .i64 a0.F.a2.N, ls a0.F.a2.Text, li .i64 a0.F.a3.N, ls a0.F.a3.Text])) :: []) (by kernel_rfl) ?_
    refine SimI.run 2 [(32, .one (lb false)), (31, .one (li .i64 4))] [] (by kernel_rfl) ?_
    refine SimI.done (by kernel_rfl) ?_
    refine SimE.thenN ?_
    refine Sim.condF (by kernel_rfl) ?_
    refine Sim.exit ?_
    refine SimE.thenX ?_
    refine SimE.loopX ?_
    refine SimE.blockX ?_
    refine SimE.thenN ?_
    refine Sim.seq ?_
    refine Sim.region0 ?_
    refine SimI.run 2 [(2, .one (ls s21)), (65, .one (ls s21))] [] (by kernel_rfl) ?_
    refine SimI.done (by kernel_rfl) ?_
    refine SimE.thenN ?_
    refine Sim.ret ?_
    exact SimE.fin (by kernel_rfl)

def F22_u18 (n : Nat) (a0 : Delta) (s17 : ByteArray) : Option ByteArray :=
    if (bitsI .and .u8 (shrI .u8 a0.Mask 4) 1) != 0 then
      (F48 n a0.F.a3.Text).bind fun (r19 : ByteArray) =>
      if s17.size + r19.size ≤ 9223372036854775807 then
        if a0.F.a3.Text.toList == ByteArray.empty.toList then
          (F49 n a0.F.a3.N).bind fun (r20 : ByteArray) =>
          if (s17 ++ r19).size + r20.size ≤ 9223372036854775807 then
            F22_u22 n ((s17 ++ r19) ++ r20)
          else none
        else
          F22_u22 n (s17 ++ r19)
      else none
    else
      F22_u22 n s17
theorem F22_u18_ok (n : Nat) (a0 : Delta) (s17 : ByteArray) : SimL Try.prog D (n + 8) (n + 5) pc22_c28 [(1, .one (.ptr 1 0)), (3, .one (ls s17)), (4, .one (li .i64 3))] ((1, some (.cells [li .i64 a0.ID, li .u8 a0.Mask, li .i64 a0.At.X, li .i64 a0.At.Y, li .i64 a0.F.a0.N, ls a0.F.a0.Text, li .i64 a0.F.a1.N, ls a0.F.a1.Text, li .i64 a0.F.a2.N, ls a0.F.a2.Text, li .i64 a0.F.a3.N, ls a0.F.a3.Text])) :: []) (F22_u18 n a0 s17) (QB 0 (QT Try.prog D (n + 8) pc22_c34 (QF pc22_r 0 F22_e))) := by
    unfold F22_u18
    refine SimL.succ ?_
    refine Sim.seq ?_
    refine Sim.seq ?_
    refine Sim.region [(1, .one (.ptr 1 0)), (3, .one (ls s17)), (4, .one (li .i64 3))] ((1, some (.cells [li .i64 a0.ID, li .u8 a0.Mask, li .i64 a0.At.X, li .i64 a0.At.Y, li .i64 a0.F.a0.N, ls a0.F.a0.Text, li .i64 a0.F.a1.N, ls a0.F.a1.Text, li .i64 a0.F.a2.N, ls a0.F.a2.Text, li .i64 a0.F.a3.N, ls a0.F.a3.Text])) :: []) (by kernel_rfl) ?_
    refine SimI.run 2 [(32, .one (lb true)), (31, .one (li .i64 3))] [] (by kernel_rfl) ?_
    refine SimI.done (by kernel_rfl) ?_
    refine SimE.thenN ?_
    refine Sim.condT (by kernel_rfl) ?_
    refine Sim.skip ?_
    refine SimE.thenN ?_
    refine Sim.seq ?_
    refine Sim.block ?_
    refine Sim.seq ?_
    refine Sim.region0 ?_
    refine SimI.run 8 [(42, .one (lb ((bitsI .and .u8 (shrI .u8 a0.Mask 4) 1) != 0))), (41, .one (li .u8 (bitsI .and .u8 (shrI .u8 a0.Mask 4) 1))), (40, .one (li .u8 (shrI .u8 a0.Mask 4))), (39, .one (li .u64 4)), (38, .one (li .i64 4)), (37, .one (li .i64 3)), (36, .one (li .u8 a0.Mask)), (35, .one (.ptr 1 1))] [] (by kernel_rfl) ?_
    refine SimI.done (by kernel_rfl) ?_
    refine SimE.thenN ?_
    refine Sim.cond ((bitsI .and .u8 (shrI .u8 a0.Mask 4) 1) != 0) (by kernel_rfl) ?_ ?_
    · refine Sim.seq ?_
      refine Sim.region0 ?_
      refine SimI.run 6 [(48, .one (ls a0.F.a3.Text)), (47, .one (.ptr 1 11)), (46, .one (.ptr 1 10)), (45, .one (.ptr 1 4)), (44, .one (li .i64 3)), (43, .one (ls s17))] [] (by kernel_rfl) ?_
      refine SimI.bind (og := F48 n a0.F.a3.Text) { dst := some 49, op := POp.call true [[]] 48 [Operand.tmp 48], guard := none, hints := [] } (fun r19 => [(49, .one (ls r19))]) (fun r19 => []) (by kernel_rfl) (fun r19 hr => pOp_eff (by kernel_rfl) (by kernel_rfl) (eff_call (ARGS := [.one (ls a0.F.a3.Text)]) (by kernel_rfl) (args_clean (by kernel_rfl) args_nil) (F48_ok n a0.F.a3.Text r19 hr) (by kernel_rfl))) (fun r19 => ?_)
      refine SimI.guard (c := s17.size + r19.size ≤ 9223372036854775807) { dst := some 50, op := POp.prim (Prim.bin BinOp.add 9 false false) [Operand.tmp 43, Operand.tmp 49], guard := none, hints := [] } [(50, .one (ls (s17 ++ r19)))] [] (by kernel_rfl) (fun hc => pOp_eff (by kernel_rfl) (by kernel_rfl) (eff_prim (by kernel_rfl) (pr_addS _ _ _ s17 r19 hc))) ?_
      refine SimI.run 1 [(3, .one (ls (s17 ++ r19)))] [] (by kernel_rfl) ?_
      refine SimI.done (by kernel_rfl) ?_
      refine SimE.thenN ?_
      refine Sim.seq ?_
      refine Sim.region0 ?_
      refine SimI.run 6 [(56, .one (lb (a0.F.a3.Text.toList == ByteArray.empty.toList))), (55, .one (ls a0.F.a3.Text)), (54, .one (.ptr 1 11)), (53, .one (.ptr 1 10)), (52, .one (.ptr 1 4)), (51, .one (li .i64 3))] [] (by kernel_rfl) ?_
      refine SimI.done (by kernel_rfl) ?_
      refine SimE.thenN ?_
      refine Sim.cond (a0.F.a3.Text.toList == ByteArray.empty.toList) (by kernel_rfl) ?_ ?_
      · refine Sim.region0 ?_
        refine SimI.run 6 [(62, .one (li .i64 a0.F.a3.N)), (61, .one (.ptr 1 10)), (60, .one (.ptr 1 10)), (59, .one (.ptr 1 4)), (58, .one (li .i64 3)), (57, .one (ls (s17 ++ r19)))] [] (by kernel_rfl) ?_
        refine SimI.bind (og := F49 n a0.F.a3.N) { dst := some 63, op := POp.call true [[]] 49 [Operand.tmp 62], guard := none, hints := [] } (fun r20 => [(63, .one (ls r20))]) (fun r20 => []) (by kernel_rfl) (fun r20 hr => pOp_eff (by kernel_rfl) (by kernel_rfl) (eff_call (ARGS := [.one (li .i64 a0.F.a3.N)]) (by kernel_rfl) (args_clean (by kernel_rfl) args_nil) (F49_ok n a0.F.a3.N r20 hr) (by kernel_rfl))) (fun r20 => ?_)
        refine SimI.guard (c := (s17 ++ r19).size + r20.size ≤ 9223372036854775807) { dst := some 64, op := POp.prim (Prim.bin BinOp.add 9 false false) [Operand.tmp 57, Operand.tmp 63], guard := none, hints := [] } [(64, .one (ls ((s17 ++ r19) ++ r20)))] [] (by kernel_rfl) (fun hc => pOp_eff (by kernel_rfl) (by kernel_rfl) (eff_prim (by kernel_rfl) (pr_addS _ _ _ (s17 ++ r19) r20 hc))) ?_
        refine SimI.run 1 [(3, .one (ls ((s17 ++ r19) ++ r20)))] [] (by kernel_rfl) ?_
        refine SimI.done (by kernel_rfl) ?_
        refine SimE.blockN ?_
        refine SimE.thenN ?_
        refine Sim.region0 ?_
        refine SimI.run 3 [(4, .one (li .i64 4)), (34, .one (li .i64 4)), (33, .one (li .i64 3))] [] (by kernel_rfl) ?_
        refine SimI.done (by kernel_rfl) ?_
        refine SimE.loopN ?_
        refine SimL.pre (ts := [1, 3, 4]) (os := [1]) [(1, .one (.ptr 1 0)), (3, .one (ls ((s17 ++ r19) ++ r20))), (4, .one (li .i64 4))] ((1, some (.cells [li .i64 a0.ID, li .u8 a0.Mask, li .i64 a0.At.X, li .i64 a0.At.Y, li .i64 a0.F.a0.N, ls a0.F.a0.Text, li .i64 a0.F.a1.N, ls a0.F.a1.Text, li .i64 a0.F.a2.N, ls a0.F.a2.Text, li .i64 a0.F.a3.N, ls a0.F.a3.Text])) :: []) (by kernel_rfl) (by kernel_rfl) (by kernel_rfl) ?_
        exact F22_u22_ok n a0 ((s17 ++ r19) ++ r20)
      · refine Sim.skip ?_
        refine SimE.blockN ?_
        refine SimE.thenN ?_
        refine Sim.region0 ?_
        refine SimI.run 3 [(4, .one (li .i64 4)), (34, .one (li .i64 4)), (33, .one (li .i64 3))] [] (by kernel_rfl) ?_
        refine SimI.done (by kernel_rfl) ?_
        refine SimE.loopN ?_
        refine SimL.pre (ts := [1, 3, 4]) (os := [1]) [(1, .one (.ptr 1 0)), (3, .one (ls (s17 ++ r19))), (4, .one (li .i64 4))] ((1, some (.cells [li .i64 a0.ID, li .u8 a0.Mask, li .i64 a0.At.X, li .i64 a0.At.Y, li .i64 a0.F.a0.N, ls a0.F.a0.Text, li .i64 a0.F.a1.N, ls a0.F.a1.Text, li .i64 a0.F.a2.N, ls a0.F.a2.Text, li .i64 a0.F.a3.N, ls a0.F.a3.Text])) :: []) (by kernel_rfl) (by kernel_rfl) (by kernel_rfl) ?_
        exact F22_u22_ok n a0 (s17 ++ r19)
    · refine Sim.skip ?_
      refine SimE.blockN ?_
      refine SimE.thenN ?_
      refine Sim.region0 ?_
      refine SimI.run 3 [(4, .one (li .i64 4)), (34, .one (li .i64 4)), (33, .one (li .i64 3))] [] (by kernel_rfl) ?_
      refine SimI.done (by kernel_rfl) ?_
      refine SimE.loopN ?_
      refine SimL.pre (ts := [1, 3, 4]) (os := [1]) [(1, .one (.ptr 1 0)), (3, .one (ls s17)), (4, .one (li .i64 4))] ((1, some (.cells [li .i64 a0.ID, li .u8 a0.Mask, li .i64 a0.At.X, li .i64 a0.At.Y, li .i64 a0.F.a0.N, ls a0.F.a0.Text, li .i64 a0.F.a1.N, ls a0.F.a1.Text, li .i64 a0.F.a2.N, ls a0.F.a2.Text, li .i64 a0.F.a3.N, ls a0.F.a3.Text])) :: []) (by kernel_rfl) (by kernel_rfl) (by kernel_rfl) ?_
      exact F22_u22_ok n a0 s17

def F22_u14 (n : Nat) (a0 : Delta) (s13 : ByteArray) : Option ByteArray :=
    if (bitsI .and .u8 (shrI .u8 a0.Mask 3) 1) != 0 then
      (F48 n a0.F.a2.Text).bind fun (r15 : ByteArray) =>
      if s13.size + r15.size ≤ 9223372036854775807 then
        if a0.F.a2.Text.toList == ByteArray.empty.toList then
          (F49 n a0.F.a2.N).bind fun (r16 : ByteArray) =>
          if (s13 ++ r15).size + r16.size ≤ 9223372036854775807 then
            F22_u18 n a0 ((s13 ++ r15) ++ r16)
          else none
        else
          F22_u18 n a0 (s13 ++ r15)
      else none
    else
      F22_u18 n a0 s13
theorem F22_u14_ok (n : Nat) (a0 : Delta) (s13 : ByteArray) : SimL Try.prog D (n + 8) (n + 6) pc22_c28 [(1, .one (.ptr 1 0)), (3, .one (ls s13)), (4, .one (li .i64 2))] ((1, some (.cells [li .i64 a0.ID, li .u8 a0.Mask, li .i64 a0.At.X, li .i64 a0.At.Y, li .i64 a0.F.a0.N, ls a0.F.a0.Text, li .i64 a0.F.a1.N, ls a0.F.a1.Text, li .i64 a0.F.a2.N, ls a0.F.a2.Text, li .i64 a0.F.a3.N, ls a0.F.a3.Text])) :: []) (F22_u14 n a0 s13) (QB 0 (QT Try.prog D (n + 8) pc22_c34 (QF pc22_r 0 F22_e))) := by
    unfold F22_u14
    refine SimL.succ ?_
    refine Sim.seq ?_
    refine Sim.seq ?_
    refine Sim.region [(1, .one (.ptr 1 0)), (3, .one (ls s13)), (4, .one (li .i64 2))] ((1, some (.cells [li .i64 a0.ID, li .u8 a0.Mask, li .i64 a0.At.X, li .i64 a0.At.Y, li .i64 a0.F.a0.N, ls a0.F.a0.Text, li .i64 a0.F.a1.N, ls a0.F.a1.Text, li .i64 a0.F.a2.N, ls a0.F.a2.Text, li .i64 a0.F.a3.N, ls a0.F.a3.Text])) :: []) (by kernel_rfl) ?_
    refine SimI.run 2 [(32, .one (lb true)), (31, .one (li .i64 2))] [] (by kernel_rfl) ?_
    refine SimI.done (by kernel_rfl) ?_
    refine SimE.thenN ?_
    refine Sim.condT (by kernel_rfl) ?_
    refine Sim.skip ?_
    refine SimE.thenN ?_
    refine Sim.seq ?_
    refine Sim.block ?_
    refine Sim.seq ?_
    refine Sim.region0 ?_
    refine SimI.run 8 [(42, .one (lb ((bitsI .and .u8 (shrI .u8 a0.Mask 3) 1) != 0))), (41, .one (li .u8 (bitsI .and .u8 (shrI .u8 a0.Mask 3) 1))), (40, .one (li .u8 (shrI .u8 a0.Mask 3))), (39, .one (li .u64 3)), (38, .one (li .i64 3)), (37, .one (li .i64 2)), (36, .one (li .u8 a0.Mask)), (35, .one (.ptr 1 1))] [] (by kernel_rfl) ?_
    refine SimI.done (by kernel_rfl) ?_
    refine SimE.thenN ?_
    refine Sim.cond ((bitsI .and .u8 (shrI .u8 a0.Mask 3) 1) != 0) (by kernel_rfl) ?_ ?_
    · refine Sim.seq ?_
      refine Sim.region0 ?_
      refine SimI.run 6 [(48, .one (ls a0.F.a2.Text)), (47, .one (.ptr 1 9)), (46, .one (.ptr 1 8)), (45, .one (.ptr 1 4)), (44, .one (li .i64 2)), (43, .one (ls s13))] [] (by kernel_rfl) ?_
      refine SimI.bind (og := F48 n a0.F.a2.Text) { dst := some 49, op := POp.call true [[]] 48 [Operand.tmp 48], guard := none, hints := [] } (fun r15 => [(49, .one (ls r15))]) (fun r15 => []) (by kernel_rfl) (fun r15 hr => pOp_eff (by kernel_rfl) (by kernel_rfl) (eff_call (ARGS := [.one (ls a0.F.a2.Text)]) (by kernel_rfl) (args_clean (by kernel_rfl) args_nil) (F48_ok n a0.F.a2.Text r15 hr) (by kernel_rfl))) (fun r15 => ?_)
      refine SimI.guard (c := s13.size + r15.size ≤ 9223372036854775807) { dst := some 50, op := POp.prim (Prim.bin BinOp.add 9 false false) [Operand.tmp 43, Operand.tmp 49], guard := none, hints := [] } [(50, .one (ls (s13 ++ r15)))] [] (by kernel_rfl) (fun hc => pOp_eff (by kernel_rfl) (by kernel_rfl) (eff_prim (by kernel_rfl) (pr_addS _ _ _ s13 r15 hc))) ?_
      refine SimI.run 1 [(3, .one (ls (s13 ++ r15)))] [] (by kernel_rfl) ?_
      refine SimI.done (by kernel_rfl) ?_
      refine SimE.thenN ?_
      refine Sim.seq ?_
      refine Sim.region0 ?_
      refine SimI.run 6 [(56, .one (lb (a0.F.a2.Text.toList == ByteArray.empty.toList))), (55, .one (ls a0.F.a2.Text)), (54, .one (.ptr 1 9)), (53, .one (.ptr 1 8)), (52, .one (.ptr 1 4)), (51, .one (li .i64 2))] [] (by kernel_rfl) ?_
      refine SimI.done (by kernel_rfl) ?_
      refine SimE.thenN ?_
      refine Sim.cond (a0.F.a2.Text.toList == ByteArray.empty.toList) (by kernel_rfl) ?_ ?_
      · refine Sim.region0 ?_
        refine SimI.run 6 [(62, .one (li .i64 a0.F.a2.N)), (61, .one (.ptr 1 8)), (60, .one (.ptr 1 8)), (59, .one (.ptr 1 4)), (58, .one (li .i64 2)), (57, .one (ls (s13 ++ r15)))] [] (by kernel_rfl) ?_
        refine SimI.bind (og := F49 n a0.F.a2.N) { dst := some 63, op := POp.call true [[]] 49 [Operand.tmp 62], guard := none, hints := [] } (fun r16 => [(63, .one (ls r16))]) (fun r16 => []) (by kernel_rfl) (fun r16 hr => pOp_eff (by kernel_rfl) (by kernel_rfl) (eff_call (ARGS := [.one (li .i64 a0.F.a2.N)]) (by kernel_rfl) (args_clean (by kernel_rfl) args_nil) (F49_ok n a0.F.a2.N r16 hr) (by kernel_rfl))) (fun r16 => ?_)
        refine SimI.guard (c := (s13 ++ r15).size + r16.size ≤ 9223372036854775807) { dst := some 64, op := POp.prim (Prim.bin BinOp.add 9 false false) [Operand.tmp 57, Operand.tmp 63], guard := none, hints := [] } [(64, .one (ls ((s13 ++ r15) ++ r16)))] [] (by kernel_rfl) (fun hc => pOp_eff (by kernel_rfl) (by kernel_rfl) (eff_prim (by kernel_rfl) (pr_addS _ _ _ (s13 ++ r15) r16 hc))) ?_
        refine SimI.run 1 [(3, .one (ls ((s13 ++ r15) ++ r16)))] [] (by kernel_rfl) ?_
        refine SimI.done (by kernel_rfl) ?_
        refine SimE.blockN ?_
        refine SimE.thenN ?_
        refine Sim.region0 ?_
        refine SimI.run 3 [(4, .one (li .i64 3)), (34, .one (li .i64 3)), (33, .one (li .i64 2))] [] (by kernel_rfl) ?_
        refine SimI.done (by kernel_rfl) ?_
        refine SimE.loopN ?_
        refine SimL.pre (ts := [1, 3, 4]) (os := [1]) [(1, .one (.ptr 1 0)), (3, .one (ls ((s13 ++ r15) ++ r16))), (4, .one (li .i64 3))] ((1, some (.cells [li .i64 a0.ID, li .u8 a0.Mask, li .i64 a0.At.X, li .i64 a0.At.Y, li .i64 a0.F.a0.N, ls a0.F.a0.Text, li .i64 a0.F.a1.N, ls a0.F.a1.Text, li .i64 a0.F.a2.N, ls a0.F.a2.Text, li .i64 a0.F.a3.N, ls a0.F.a3.Text])) :: []) (by kernel_rfl) (by kernel_rfl) (by kernel_rfl) ?_
        exact F22_u18_ok n a0 ((s13 ++ r15) ++ r16)
      · refine Sim.skip ?_
        refine SimE.blockN ?_
        refine SimE.thenN ?_
        refine Sim.region0 ?_
        refine SimI.run 3 [(4, .one (li .i64 3)), (34, .one (li .i64 3)), (33, .one (li .i64 2))] [] (by kernel_rfl) ?_
        refine SimI.done (by kernel_rfl) ?_
        refine SimE.loopN ?_
        refine SimL.pre (ts := [1, 3, 4]) (os := [1]) [(1, .one (.ptr 1 0)), (3, .one (ls (s13 ++ r15))), (4, .one (li .i64 3))] ((1, some (.cells [li .i64 a0.ID, li .u8 a0.Mask, li .i64 a0.At.X, li .i64 a0.At.Y, li .i64 a0.F.a0.N, ls a0.F.a0.Text, li .i64 a0.F.a1.N, ls a0.F.a1.Text, li .i64 a0.F.a2.N, ls a0.F.a2.Text, li .i64 a0.F.a3.N, ls a0.F.a3.Text])) :: []) (by kernel_rfl) (by kernel_rfl) (by kernel_rfl) ?_
        exact F22_u18_ok n a0 (s13 ++ r15)
    · refine Sim.skip ?_
      refine SimE.blockN ?_
      refine SimE.thenN ?_
      refine Sim.region0 ?_
      refine SimI.run 3 [(4, .one (li .i64 3)), (34, .one (li .i64 3)), (33, .one (li .i64 2))] [] (by kernel_rfl) ?_
      refine SimI.done (by kernel_rfl) ?_
      refine SimE.loopN ?_
      refine SimL.pre (ts := [1, 3, 4]) (os := [1]) [(1, .one (.ptr 1 0)), (3, .one (ls s13)), (4, .one (li .i64 3))] ((1, some (.cells [li .i64 a0.ID, li .u8 a0.Mask, li .i64 a0.At.X, li .i64 a0.At.Y, li .i64 a0.F.a0.N, ls a0.F.a0.Text, li .i64 a0.F.a1.N, ls a0.F.a1.Text, li .i64 a0.F.a2.N, ls a0.F.a2.Text, li .i64 a0.F.a3.N, ls a0.F.a3.Text])) :: []) (by kernel_rfl) (by kernel_rfl) (by kernel_rfl) ?_
      exact F22_u18_ok n a0 s13

def F22_u10 (n : Nat) (a0 : Delta) (s9 : ByteArray) : Option ByteArray :=
    if (bitsI .and .u8 (shrI .u8 a0.Mask 2) 1) != 0 then
      (F48 n a0.F.a1.Text).bind fun (r11 : ByteArray) =>
      if s9.size + r11.size ≤ 9223372036854775807 then
        if a0.F.a1.Text.toList == ByteArray.empty.toList then
          (F49 n a0.F.a1.N).bind fun (r12 : ByteArray) =>
          if (s9 ++ r11).size + r12.size ≤ 9223372036854775807 then
            F22_u14 n a0 ((s9 ++ r11) ++ r12)
          else none
        else
          F22_u14 n a0 (s9 ++ r11)
      else none
    else
      F22_u14 n a0 s9
theorem F22_u10_ok (n : Nat) (a0 : Delta) (s9 : ByteArray) : SimL Try.prog D (n + 8) (n + 7) pc22_c28 [(1, .one (.ptr 1 0)), (3, .one (ls s9)), (4, .one (li .i64 1))] ((1, some (.cells [li .i64 a0.ID, li .u8 a0.Mask, li .i64 a0.At.X, li .i64 a0.At.Y, li .i64 a0.F.a0.N, ls a0.F.a0.Text, li .i64 a0.F.a1.N, ls a0.F.a1.Text, li .i64 a0.F.a2.N, ls a0.F.a2.Text, li .i64 a0.F.a3.N, ls a0.F.a3.Text])) :: []) (F22_u10 n a0 s9) (QB 0 (QT Try.prog D (n + 8) pc22_c34 (QF pc22_r 0 F22_e))) := by
    unfold F22_u10
    refine SimL.succ ?_
    refine Sim.seq ?_
    refine Sim.seq ?_
    refine Sim.region [(1, .one (.ptr 1 0)), (3, .one (ls s9)), (4, .one (li .i64 1))] ((1, some (.cells [li .i64 a0.ID, li .u8 a0.Mask, li .i64 a0.At.X, li .i64 a0.At.Y, li .i64 a0.F.a0.N, ls a0.F.a0.Text, li .i64 a0.F.a1.N, ls a0.F.a1.Text, li .i64 a0.F.a2.N, ls a0.F.a2.Text, li .i64 a0.F.a3.N, ls a0.F.a3.Text])) :: []) (by kernel_rfl) ?_
    refine SimI.run 2 [(32, .one (lb true)), (31, .one (li .i64 1))] [] (by kernel_rfl) ?_
    refine SimI.done (by kernel_rfl) ?_
    refine SimE.thenN ?_
    refine Sim.condT (by kernel_rfl) ?_
    refine Sim.skip ?_
    refine SimE.thenN ?_
    refine Sim.seq ?_
    refine Sim.block ?_
    refine Sim.seq ?_
    refine Sim.region0 ?_
    refine SimI.run 8 [(42, .one (lb ((bitsI .and .u8 (shrI .u8 a0.Mask 2) 1) != 0))), (41, .one (li .u8 (bitsI .and .u8 (shrI .u8 a0.Mask 2) 1))), (40, .one (li .u8 (shrI .u8 a0.Mask 2))), (39, .one (li .u64 2)), (38, .one (li .i64 2)), (37, .one (li .i64 1)), (36, .one (li .u8 a0.Mask)), (35, .one (.ptr 1 1))] [] (by kernel_rfl) ?_
    refine SimI.done (by kernel_rfl) ?_
    refine SimE.thenN ?_
    refine Sim.cond ((bitsI .and .u8 (shrI .u8 a0.Mask 2) 1) != 0) (by kernel_rfl) ?_ ?_
    · refine Sim.seq ?_
      refine Sim.region0 ?_
      refine SimI.run 6 [(48, .one (ls a0.F.a1.Text)), (47, .one (.ptr 1 7)), (46, .one (.ptr 1 6)), (45, .one (.ptr 1 4)), (44, .one (li .i64 1)), (43, .one (ls s9))] [] (by kernel_rfl) ?_
      refine SimI.bind (og := F48 n a0.F.a1.Text) { dst := some 49, op := POp.call true [[]] 48 [Operand.tmp 48], guard := none, hints := [] } (fun r11 => [(49, .one (ls r11))]) (fun r11 => []) (by kernel_rfl) (fun r11 hr => pOp_eff (by kernel_rfl) (by kernel_rfl) (eff_call (ARGS := [.one (ls a0.F.a1.Text)]) (by kernel_rfl) (args_clean (by kernel_rfl) args_nil) (F48_ok n a0.F.a1.Text r11 hr) (by kernel_rfl))) (fun r11 => ?_)
      refine SimI.guard (c := s9.size + r11.size ≤ 9223372036854775807) { dst := some 50, op := POp.prim (Prim.bin BinOp.add 9 false false) [Operand.tmp 43, Operand.tmp 49], guard := none, hints := [] } [(50, .one (ls (s9 ++ r11)))] [] (by kernel_rfl) (fun hc => pOp_eff (by kernel_rfl) (by kernel_rfl) (eff_prim (by kernel_rfl) (pr_addS _ _ _ s9 r11 hc))) ?_
      refine SimI.run 1 [(3, .one (ls (s9 ++ r11)))] [] (by kernel_rfl) ?_
      refine SimI.done (by kernel_rfl) ?_
      refine SimE.thenN ?_
      refine Sim.seq ?_
      refine Sim.region0 ?_
      refine SimI.run 6 [(56, .one (lb (a0.F.a1.Text.toList == ByteArray.empty.toList))), (55, .one (ls a0.F.a1.Text)), (54, .one (.ptr 1 7)), (53, .one (.ptr 1 6)), (52, .one (.ptr 1 4)), (51, .one (li .i64 1))] [] (by kernel_rfl) ?_
      refine SimI.done (by kernel_rfl) ?_
      refine SimE.thenN ?_
      refine Sim.cond (a0.F.a1.Text.toList == ByteArray.empty.toList) (by kernel_rfl) ?_ ?_
      · refine Sim.region0 ?_
        refine SimI.run 6 [(62, .one (li .i64 a0.F.a1.N)), (61, .one (.ptr 1 6)), (60, .one (.ptr 1 6)), (59, .one (.ptr 1 4)), (58, .one (li .i64 1)), (57, .one (ls (s9 ++ r11)))] [] (by kernel_rfl) ?_
        refine SimI.bind (og := F49 n a0.F.a1.N) { dst := some 63, op := POp.call true [[]] 49 [Operand.tmp 62], guard := none, hints := [] } (fun r12 => [(63, .one (ls r12))]) (fun r12 => []) (by kernel_rfl) (fun r12 hr => pOp_eff (by kernel_rfl) (by kernel_rfl) (eff_call (ARGS := [.one (li .i64 a0.F.a1.N)]) (by kernel_rfl) (args_clean (by kernel_rfl) args_nil) (F49_ok n a0.F.a1.N r12 hr) (by kernel_rfl))) (fun r12 => ?_)
        refine SimI.guard (c := (s9 ++ r11).size + r12.size ≤ 9223372036854775807) { dst := some 64, op := POp.prim (Prim.bin BinOp.add 9 false false) [Operand.tmp 57, Operand.tmp 63], guard := none, hints := [] } [(64, .one (ls ((s9 ++ r11) ++ r12)))] [] (by kernel_rfl) (fun hc => pOp_eff (by kernel_rfl) (by kernel_rfl) (eff_prim (by kernel_rfl) (pr_addS _ _ _ (s9 ++ r11) r12 hc))) ?_
        refine SimI.run 1 [(3, .one (ls ((s9 ++ r11) ++ r12)))] [] (by kernel_rfl) ?_
        refine SimI.done (by kernel_rfl) ?_
        refine SimE.blockN ?_
        refine SimE.thenN ?_
        refine Sim.region0 ?_
        refine SimI.run 3 [(4, .one (li .i64 2)), (34, .one (li .i64 2)), (33, .one (li .i64 1))] [] (by kernel_rfl) ?_
        refine SimI.done (by kernel_rfl) ?_
        refine SimE.loopN ?_
        refine SimL.pre (ts := [1, 3, 4]) (os := [1]) [(1, .one (.ptr 1 0)), (3, .one (ls ((s9 ++ r11) ++ r12))), (4, .one (li .i64 2))] ((1, some (.cells [li .i64 a0.ID, li .u8 a0.Mask, li .i64 a0.At.X, li .i64 a0.At.Y, li .i64 a0.F.a0.N, ls a0.F.a0.Text, li .i64 a0.F.a1.N, ls a0.F.a1.Text, li .i64 a0.F.a2.N, ls a0.F.a2.Text, li .i64 a0.F.a3.N, ls a0.F.a3.Text])) :: []) (by kernel_rfl) (by kernel_rfl) (by kernel_rfl) ?_
        exact F22_u14_ok n a0 ((s9 ++ r11) ++ r12)
      · refine Sim.skip ?_
        refine SimE.blockN ?_
        refine SimE.thenN ?_
        refine Sim.region0 ?_
        refine SimI.run 3 [(4, .one (li .i64 2)), (34, .one (li .i64 2)), (33, .one (li .i64 1))] [] (by kernel_rfl) ?_
        refine SimI.done (by kernel_rfl) ?_
        refine SimE.loopN ?_
        refine SimL.pre (ts := [1, 3, 4]) (os := [1]) [(1, .one (.ptr 1 0)), (3, .one (ls (s9 ++ r11))), (4, .one (li .i64 2))] ((1, some (.cells [li .i64 a0.ID, li .u8 a0.Mask, li .i64 a0.At.X, li .i64 a0.At.Y, li .i64 a0.F.a0.N, ls a0.F.a0.Text, li .i64 a0.F.a1.N, ls a0.F.a1.Text, li .i64 a0.F.a2.N, ls a0.F.a2.Text, li .i64 a0.F.a3.N, ls a0.F.a3.Text])) :: []) (by kernel_rfl) (by kernel_rfl) (by kernel_rfl) ?_
        exact F22_u14_ok n a0 (s9 ++ r11)
    · refine Sim.skip ?_
      refine SimE.blockN ?_
      refine SimE.thenN ?_
      refine Sim.region0 ?_
      refine SimI.run 3 [(4, .one (li .i64 2)), (34, .one (li .i64 2)), (33, .one (li .i64 1))] [] (by kernel_rfl) ?_
      refine SimI.done (by kernel_rfl) ?_
      refine SimE.loopN ?_
      refine SimL.pre (ts := [1, 3, 4]) (os := [1]) [(1, .one (.ptr 1 0)), (3, .one (ls s9)), (4, .one (li .i64 2))] ((1, some (.cells [li .i64 a0.ID, li .u8 a0.Mask, li .i64 a0.At.X, li .i64 a0.At.Y, li .i64 a0.F.a0.N, ls a0.F.a0.Text, li .i64 a0.F.a1.N, ls a0.F.a1.Text, li .i64 a0.F.a2.N, ls a0.F.a2.Text, li .i64 a0.F.a3.N, ls a0.F.a3.Text])) :: []) (by kernel_rfl) (by kernel_rfl) (by kernel_rfl) ?_
      exact F22_u14_ok n a0 s9

def F22_j6 (n : Nat) (a0 : Delta) (s5 : ByteArray) : Option ByteArray :=
    if (bitsI .and .u8 (shrI .u8 a0.Mask 1) 1) != 0 then
      (F48 n a0.F.a0.Text).bind fun (r7 : ByteArray) =>
      if s5.size + r7.size ≤ 9223372036854775807 then
        if a0.F.a0.Text.toList == ByteArray.empty.toList then
          (F49 n a0.F.a0.N).bind fun (r8 : ByteArray) =>
          if (s5 ++ r7).size + r8.size ≤ 9223372036854775807 then
            F22_u10 n a0 ((s5 ++ r7) ++ r8)
          else none
        else
          F22_u10 n a0 (s5 ++ r7)
      else none
    else
      F22_u10 n a0 s5
theorem F22_j6_ok (n : Nat) (a0 : Delta) (s5 : ByteArray) : Sim Try.prog D (n + 8) pc22_c35 [(1, .one (.ptr 1 0)), (3, .one (ls s5))] ((1, some (.cells [li .i64 a0.ID, li .u8 a0.Mask, li .i64 a0.At.X, li .i64 a0.At.Y, li .i64 a0.F.a0.N, ls a0.F.a0.Text, li .i64 a0.F.a1.N, ls a0.F.a1.Text, li .i64 a0.F.a2.N, ls a0.F.a2.Text, li .i64 a0.F.a3.N, ls a0.F.a3.Text])) :: []) (F22_j6 n a0 s5) (QF pc22_r 0 F22_e) := by
    unfold F22_j6
    refine Sim.seq ?_
    refine Sim.seq ?_
    refine Sim.region [(1, .one (.ptr 1 0)), (3, .one (ls s5))] ((1, some (.cells [li .i64 a0.ID, li .u8 a0.Mask, li .i64 a0.At.X, li .i64 a0.At.Y, li .i64 a0.F.a0.N, ls a0.F.a0.Text, li .i64 a0.F.a1.N, ls a0.F.a1.Text, li .i64 a0.F.a2.N, ls a0.F.a2.Text, li .i64 a0.F.a3.N, ls a0.F.a3.Text])) :: []) (by kernel_rfl) ?_
    refine SimI.run 1 [(4, .one (li .i64 0))] [] (by kernel_rfl) ?_
    refine SimI.done (by kernel_rfl) ?_
    refine SimE.thenN ?_
    refine Sim.block ?_
    refine Sim.loop ?_
    refine SimL.succ ?_
    refine Sim.seq ?_
    refine Sim.seq ?_
    refine Sim.region [(1, .one (.ptr 1 0)), (3, .one (ls s5)), (4, .one (li .i64 0))] ((1, some (.cells [li .i64 a0.ID, li .u8 a0.Mask, li .i64 a0.At.X, li .i64 a0.At.Y, li .i64 a0.F.a0.N, ls a0.F.a0.Text, li .i64 a0.F.a1.N, ls a0.F.a1.Text, li .i64 a0.F.a2.N, ls a0.F.a2.Text, li .i64 a0.F.a3.N, ls a0.F.a3.Text])) :: []) (by kernel_rfl) ?_
    refine SimI.run 2 [(32, .one (lb true)), (31, .one (li .i64 0))] [] (by kernel_rfl) ?_
    refine SimI.done (by kernel_rfl) ?_
    refine SimE.thenN ?_
    refine Sim.condT (by kernel_rfl) ?_
    refine Sim.skip ?_
    refine SimE.thenN ?_
    refine Sim.seq ?_
    refine Sim.block ?_
    refine Sim.seq ?_
    refine Sim.region0 ?_
    refine SimI.run 8 [(42, .one (lb ((bitsI .and .u8 (shrI .u8 a0.Mask 1) 1) != 0))), (41, .one (li .u8 (bitsI .and .u8 (shrI .u8 a0.Mask 1) 1))), (40, .one (li .u8 (shrI .u8 a0.Mask 1))), (39, .one (li .u64 1)), (38, .one (li .i64 1)), (37, .one (li .i64 0)), (36, .one (li .u8 a0.Mask)), (35, .one (.ptr 1 1))] [] (by kernel_rfl) ?_
    refine SimI.done (by kernel_rfl) ?_
    refine SimE.thenN ?_
    refine Sim.cond ((bitsI .and .u8 (shrI .u8 a0.Mask 1) 1) != 0) (by kernel_rfl) ?_ ?_
    · refine Sim.seq ?_
      refine Sim.region0 ?_
      refine SimI.run 6 [(48, .one (ls a0.F.a0.Text)), (47, .one (.ptr 1 5)), (46, .one (.ptr 1 4)), (45, .one (.ptr 1 4)), (44, .one (li .i64 0)), (43, .one (ls s5))] [] (by kernel_rfl) ?_
      refine SimI.bind (og := F48 n a0.F.a0.Text) { dst := some 49, op := POp.call true [[]] 48 [Operand.tmp 48], guard := none, hints := [] } (fun r7 => [(49, .one (ls r7))]) (fun r7 => []) (by kernel_rfl) (fun r7 hr => pOp_eff (by kernel_rfl) (by kernel_rfl) (eff_call (ARGS := [.one (ls a0.F.a0.Text)]) (by kernel_rfl) (args_clean (by kernel_rfl) args_nil) (F48_ok n a0.F.a0.Text r7 hr) (by kernel_rfl))) (fun r7 => ?_)
      refine SimI.guard (c := s5.size + r7.size ≤ 9223372036854775807) { dst := some 50, op := POp.prim (Prim.bin BinOp.add 9 false false) [Operand.tmp 43, Operand.tmp 49], guard := none, hints := [] } [(50, .one (ls (s5 ++ r7)))] [] (by kernel_rfl) (fun hc => pOp_eff (by kernel_rfl) (by kernel_rfl) (eff_prim (by kernel_rfl) (pr_addS _ _ _ s5 r7 hc))) ?_
      refine SimI.run 1 [(3, .one (ls (s5 ++ r7)))] [] (by kernel_rfl) ?_
      refine SimI.done (by kernel_rfl) ?_
      refine SimE.thenN ?_
      refine Sim.seq ?_
      refine Sim.region0 ?_
      refine SimI.run 6 [(56, .one (lb (a0.F.a0.Text.toList == ByteArray.empty.toList))), (55, .one (ls a0.F.a0.Text)), (54, .one (.ptr 1 5)), (53, .one (.ptr 1 4)), (52, .one (.ptr 1 4)), (51, .one (li .i64 0))] [] (by kernel_rfl) ?_
      refine SimI.done (by kernel_rfl) ?_
      refine SimE.thenN ?_
      refine Sim.cond (a0.F.a0.Text.toList == ByteArray.empty.toList) (by kernel_rfl) ?_ ?_
      · refine Sim.region0 ?_
        refine SimI.run 6 [(62, .one (li .i64 a0.F.a0.N)), (61, .one (.ptr 1 4)), (60, .one (.ptr 1 4)), (59, .one (.ptr 1 4)), (58, .one (li .i64 0)), (57, .one (ls (s5 ++ r7)))] [] (by kernel_rfl) ?_
        refine SimI.bind (og := F49 n a0.F.a0.N) { dst := some 63, op := POp.call true [[]] 49 [Operand.tmp 62], guard := none, hints := [] } (fun r8 => [(63, .one (ls r8))]) (fun r8 => []) (by kernel_rfl) (fun r8 hr => pOp_eff (by kernel_rfl) (by kernel_rfl) (eff_call (ARGS := [.one (li .i64 a0.F.a0.N)]) (by kernel_rfl) (args_clean (by kernel_rfl) args_nil) (F49_ok n a0.F.a0.N r8 hr) (by kernel_rfl))) (fun r8 => ?_)
        refine SimI.guard (c := (s5 ++ r7).size + r8.size ≤ 9223372036854775807) { dst := some 64, op := POp.prim (Prim.bin BinOp.add 9 false false) [Operand.tmp 57, Operand.tmp 63], guard := none, hints := [] } [(64, .one (ls ((s5 ++ r7) ++ r8)))] [] (by kernel_rfl) (fun hc => pOp_eff (by kernel_rfl) (by kernel_rfl) (eff_prim (by kernel_rfl) (pr_addS _ _ _ (s5 ++ r7) r8 hc))) ?_
        refine SimI.run 1 [(3, .one (ls ((s5 ++ r7) ++ r8)))] [] (by kernel_rfl) ?_
        refine SimI.done (by kernel_rfl) ?_
        refine SimE.blockN ?_
        refine SimE.thenN ?_
        refine Sim.region0 ?_
        refine SimI.run 3 [(4, .one (li .i64 1)), (34, .one (li .i64 1)), (33, .one (li .i64 0))] [] (by kernel_rfl) ?_
        refine SimI.done (by kernel_rfl) ?_
        refine SimE.loopN ?_
        refine SimL.pre (ts := [1, 3, 4]) (os := [1]) [(1, .one (.ptr 1 0)), (3, .one (ls ((s5 ++ r7) ++ r8))), (4, .one (li .i64 1))] ((1, some (.cells [li .i64 a0.ID, li .u8 a0.Mask, li .i64 a0.At.X, li .i64 a0.At.Y, li .i64 a0.F.a0.N, ls a0.F.a0.Text, li .i64 a0.F.a1.N, ls a0.F.a1.Text, li .i64 a0.F.a2.N, ls a0.F.a2.Text, li .i64 a0.F.a3.N, ls a0.F.a3.Text])) :: []) (by kernel_rfl) (by kernel_rfl) (by kernel_rfl) ?_
        exact F22_u10_ok n a0 ((s5 ++ r7) ++ r8)
      · refine Sim.skip ?_
        refine SimE.blockN ?_
        refine SimE.thenN ?_
        refine Sim.region0 ?_
        refine SimI.run 3 [(4, .one (li .i64 1)), (34, .one (li .i64 1)), (33, .one (li .i64 0))] [] (by kernel_rfl) ?_
        refine SimI.done (by kernel_rfl) ?_
        refine SimE.loopN ?_
        refine SimL.pre (ts := [1, 3, 4]) (os := [1]) [(1, .one (.ptr 1 0)), (3, .one (ls (s5 ++ r7))), (4, .one (li .i64 1))] ((1, some (.cells [li .i64 a0.ID, li .u8 a0.Mask, li .i64 a0.At.X, li .i64 a0.At.Y, li .i64 a0.F.a0.N, ls a0.F.a0.Text, li .i64 a0.F.a1.N, ls a0.F.a1.Text, li .i64 a0.F.a2.N, ls a0.F.a2.Text, li .i64 a0.F.a3.N, ls a0.F.a3.Text])) :: []) (by kernel_rfl) (by kernel_rfl) (by kernel_rfl) ?_
        exact F22_u10_ok n a0 (s5 ++ r7)
    · refine Sim.skip ?_
      refine SimE.blockN ?_
      refine SimE.thenN ?_
      refine Sim.region0 ?_
      refine SimI.run 3 [(4, .one (li .i64 1)), (34, .one (li .i64 1)), (33, .one (li .i64 0))] [] (by kernel_rfl) ?_
      refine SimI.done (by kernel_rfl) ?_
      refine SimE.loopN ?_
      refine SimL.pre (ts := [1, 3, 4]) (os := [1]) [(1, .one (.ptr 1 0)), (3, .one (ls s5)), (4, .one (li .i64 1))] ((1, some (.cells [li .i64 a0.ID, li .u8 a0.Mask, li .i64 a0.At.X, li .i64 a0.At.Y, li .i64 a0.F.a0.N, ls a0.F.a0.Text, li .i64 a0.F.a1.N, ls a0.F.a1.Text, li .i64 a0.F.a2.N, ls a0.F.a2.Text, li .i64 a0.F.a3.N, ls a0.F.a3.Text])) :: []) (by kernel_rfl) (by kernel_rfl) (by kernel_rfl) ?_
      exact F22_u10_ok n a0 s5

def F22 (n : Nat) (a0 : Delta) : Option ByteArray :=
  (F47 n (IntKind.wrap .u64 a0.ID)).bind fun (r1 : ByteArray) =>
  (F47 n (IntKind.wrap .u64 a0.Mask)).bind fun (r2 : ByteArray) =>
  if r1.size + r2.size ≤ 9223372036854775807 then
    if (bitsI .and .u8 a0.Mask 1) != 0 then
      (F47 n (IntKind.wrap .u64 a0.At.X)).bind fun (r3 : ByteArray) =>
      if (r1 ++ r2).size + r3.size ≤ 9223372036854775807 then
        (F47 n (IntKind.wrap .u64 a0.At.Y)).bind fun (r4 : ByteArray) =>
        if ((r1 ++ r2) ++ r3).size + r4.size ≤ 9223372036854775807 then
          F22_j6 n a0 (((r1 ++ r2) ++ r3) ++ r4)
        else none
      else none
    else
      F22_j6 n a0 (r1 ++ r2)
  else none
theorem F22_ok (n : Nat) (a0 : Delta) : ∀ r, F22 n a0 = some r → D 22 [.agg [li .i64 a0.ID, li .u8 a0.Mask, li .i64 a0.At.X, li .i64 a0.At.Y, li .i64 a0.F.a0.N, ls a0.F.a0.Text, li .i64 a0.F.a1.N, ls a0.F.a1.Text, li .i64 a0.F.a2.N, ls a0.F.a2.Text, li .i64 a0.F.a3.N, ls a0.F.a3.Text]] [] = some (F22_e r) := by
  refine fn_to (D := D) (n := n + 8) (nt := 66) (rs := pc22_r) (c := pc22_c38) (L := [(0, .agg [li .i64 a0.ID, li .u8 a0.Mask, li .i64 a0.At.X, li .i64 a0.At.Y, li .i64 a0.F.a0.N, ls a0.F.a0.Text, li .i64 a0.F.a1.N, ls a0.F.a1.Text, li .i64 a0.F.a2.N, ls a0.F.a2.Text, li .i64 a0.F.a3.N, ls a0.F.a3.Text])]) (M := []) (k := 0) rfl rfl rfl rfl rfl rfl ?_
  unfold F22
  refine Sim.seq ?_
  refine Sim.region0 ?_
  refine SimI.run 2 [(2, .one (ls ByteArray.empty)), (1, .one (.ptr 1 0))] [(1, some (.cells [li .i64 a0.ID, li .u8 a0.Mask, li .i64 a0.At.X, li .i64 a0.At.Y, li .i64 a0.F.a0.N, ls a0.F.a0.Text, li .i64 a0.F.a1.N, ls a0.F.a1.Text, li .i64 a0.F.a2.N, ls a0.F.a2.Text, li .i64 a0.F.a3.N, ls a0.F.a3.Text]))] (by kernel_rfl) ?_
  refine SimI.done (by kernel_rfl) ?_
  refine SimE.thenN ?_
  refine Sim.seq ?_
  refine Sim.region0 ?_
  refine SimI.run 3 [(7, .one (li .u64 (IntKind.wrap .u64 a0.ID))), (6, .one (li .i64 a0.ID)), (5, .one (.ptr 1 0))] [] (by kernel_rfl) ?_
  refine SimI.bind (og := F47 n (IntKind.wrap .u64 a0.ID)) { dst := some 8, op := POp.call false [[]] 47 [Operand.tmp 7], guard := none, hints := [(7, Hint.imm)] } (fun r1 => [(8, .one (ls r1))]) (fun r1 => []) (by kernel_rfl) (fun r1 hr => pOp_eff (by kernel_rfl) (by kernel_rfl) (eff_call (ARGS := [.one (li .u64 (IntKind.wrap .u64 a0.ID))]) (by kernel_rfl) (args_clean (by kernel_rfl) args_nil) (F47_ok n (IntKind.wrap .u64 a0.ID) r1 hr) (by kernel_rfl))) (fun r1 => ?_)
  refine SimI.run 3 [(11, .one (li .u64 (IntKind.wrap .u64 a0.Mask))), (10, .one (li .u8 a0.Mask)), (9, .one (.ptr 1 1))] [] (by kernel_rfl) ?_
  refine SimI.bind (og := F47 n (IntKind.wrap .u64 a0.Mask)) { dst := some 12, op := POp.call false [[]] 47 [Operand.tmp 11], guard := none, hints := [(11, Hint.imm)] } (fun r2 => [(12, .one (ls r2))]) (fun r2 => []) (by kernel_rfl) (fun r2 hr => pOp_eff (by kernel_rfl) (by kernel_rfl) (eff_call (ARGS := [.one (li .u64 (IntKind.wrap .u64 a0.Mask))]) (by kernel_rfl) (args_clean (by kernel_rfl) args_nil) (F47_ok n (IntKind.wrap .u64 a0.Mask) r2 hr) (by kernel_rfl))) (fun r2 => ?_)
  refine SimI.guard (c := r1.size + r2.size ≤ 9223372036854775807) { dst := some 13, op := POp.prim (Prim.bin BinOp.add 9 false false) [Operand.tmp 8, Operand.tmp 12], guard := none, hints := [(8, Hint.imm), (12, Hint.imm)] } [(13, .one (ls (r1 ++ r2)))] [] (by kernel_rfl) (fun hc => pOp_eff (by kernel_rfl) (by kernel_rfl) (eff_prim (by kernel_rfl) (pr_addS _ _ _ r1 r2 hc))) ?_
  refine SimI.run 1 [(3, .one (ls (r1 ++ r2)))] [] (by kernel_rfl) ?_
  refine SimI.done (by kernel_rfl) ?_
  refine SimE.thenN ?_
  refine Sim.seq ?_
  refine Sim.seq ?_
  refine Sim.region0 ?_
  refine SimI.run 4 [(17, .one (lb ((bitsI .and .u8 a0.Mask 1) != 0))), (16, .one (li .u8 (bitsI .and .u8 a0.Mask 1))), (15, .one (li .u8 a0.Mask)), (14, .one (.ptr 1 1))] [] (by kernel_rfl) ?_
  refine SimI.done (by kernel_rfl) ?_
  refine SimE.thenN ?_
  refine Sim.cond ((bitsI .and .u8 a0.Mask 1) != 0) (by kernel_rfl) ?_ ?_
  · refine Sim.region0 ?_
    refine SimI.run 5 [(22, .one (li .u64 (IntKind.wrap .u64 a0.At.X))), (21, .one (li .i64 a0.At.X)), (20, .one (.ptr 1 2)), (19, .one (.ptr 1 2)), (18, .one (ls (r1 ++ r2)))] [] (by kernel_rfl) ?_
    refine SimI.bind (og := F47 n (IntKind.wrap .u64 a0.At.X)) { dst := some 23, op := POp.call false [[]] 47 [Operand.tmp 22], guard := none, hints := [(22, Hint.imm)] } (fun r3 => [(23, .one (ls r3))]) (fun r3 => []) (by kernel_rfl) (fun r3 hr => pOp_eff (by kernel_rfl) (by kernel_rfl) (eff_call (ARGS := [.one (li .u64 (IntKind.wrap .u64 a0.At.X))]) (by kernel_rfl) (args_clean (by kernel_rfl) args_nil) (F47_ok n (IntKind.wrap .u64 a0.At.X) r3 hr) (by kernel_rfl))) (fun r3 => ?_)
    refine SimI.guard (c := (r1 ++ r2).size + r3.size ≤ 9223372036854775807) { dst := some 24, op := POp.prim (Prim.bin BinOp.add 9 false false) [Operand.tmp 18, Operand.tmp 23], guard := none, hints := [(18, Hint.imm), (23, Hint.imm)] } [(24, .one (ls ((r1 ++ r2) ++ r3)))] [] (by kernel_rfl) (fun hc => pOp_eff (by kernel_rfl) (by kernel_rfl) (eff_prim (by kernel_rfl) (pr_addS _ _ _ (r1 ++ r2) r3 hc))) ?_
    refine SimI.run 4 [(28, .one (li .u64 (IntKind.wrap .u64 a0.At.Y))), (27, .one (li .i64 a0.At.Y)), (26, .one (.ptr 1 3)), (25, .one (.ptr 1 2))] [] (by kernel_rfl) ?_
    refine SimI.bind (og := F47 n (IntKind.wrap .u64 a0.At.Y)) { dst := some 29, op := POp.call false [[]] 47 [Operand.tmp 28], guard := none, hints := [(28, Hint.imm)] } (fun r4 => [(29, .one (ls r4))]) (fun r4 => []) (by kernel_rfl) (fun r4 hr => pOp_eff (by kernel_rfl) (by kernel_rfl) (eff_call (ARGS := [.one (li .u64 (IntKind.wrap .u64 a0.At.Y))]) (by kernel_rfl) (args_clean (by kernel_rfl) args_nil) (F47_ok n (IntKind.wrap .u64 a0.At.Y) r4 hr) (by kernel_rfl))) (fun r4 => ?_)
    refine SimI.guard (c := ((r1 ++ r2) ++ r3).size + r4.size ≤ 9223372036854775807) { dst := some 30, op := POp.prim (Prim.bin BinOp.add 9 false false) [Operand.tmp 24, Operand.tmp 29], guard := none, hints := [(24, Hint.imm), (29, Hint.imm)] } [(30, .one (ls (((r1 ++ r2) ++ r3) ++ r4)))] [] (by kernel_rfl) (fun hc => pOp_eff (by kernel_rfl) (by kernel_rfl) (eff_prim (by kernel_rfl) (pr_addS _ _ _ ((r1 ++ r2) ++ r3) r4 hc))) ?_
    refine SimI.run 1 [(3, .one (ls (((r1 ++ r2) ++ r3) ++ r4)))] [] (by kernel_rfl) ?_
    refine SimI.done (by kernel_rfl) ?_
    refine SimE.thenN ?_
    refine Sim.pre (ts := [1, 3]) (os := [1]) [(1, .one (.ptr 1 0)), (3, .one (ls (((r1 ++ r2) ++ r3) ++ r4)))] ((1, some (.cells [li .i64 a0.ID, li .u8 a0.Mask, li .i64 a0.At.X, li .i64 a0.At.Y, li .i64 a0.F.a0.N, ls a0.F.a0.Text, li .i64 a0.F.a1.N, ls a0.F.a1.Text, li .i64 a0.F.a2.N, ls a0.F.a2.Text, li .i64 a0.F.a3.N, ls a0.F.a3.Text])) :: []) (by kernel_rfl) (by kernel_rfl) (by kernel_rfl) ?_
    exact F22_j6_ok n a0 (((r1 ++ r2) ++ r3) ++ r4)
  · refine Sim.skip ?_
    refine SimE.thenN ?_
    refine Sim.pre (ts := [1, 3]) (os := [1]) [(1, .one (.ptr 1 0)), (3, .one (ls (r1 ++ r2)))] ((1, some (.cells [li .i64 a0.ID, li .u8 a0.Mask, li .i64 a0.At.X, li .i64 a0.At.Y, li .i64 a0.F.a0.N, ls a0.F.a0.Text, li .i64 a0.F.a1.N, ls a0.F.a1.Text, li .i64 a0.F.a2.N, ls a0.F.a2.Text, li .i64 a0.F.a3.N, ls a0.F.a3.Text])) :: []) (by kernel_rfl) (by kernel_rfl) (by kernel_rfl) ?_
    exact F22_j6_ok n a0 (r1 ++ r2)


-- 24: vedette/vedetteref6.Apply
def F24_e : Thing → PV × List (List Lf) := fun r => (.agg [li .i64 r.ID, li .i64 r.At.X, li .i64 r.At.Y, li .i64 r.F.a0.N, ls r.F.a0.Text, li .i64 r.F.a1.N, ls r.F.a1.Text, li .i64 r.F.a2.N, ls r.F.a2.Text, li .i64 r.F.a3.N, ls r.F.a3.Text], [])
def F24_u15 (n : Nat) (a0 : Thing) (i1 : Int) (i2 : Int) (i4 : Int) (s5 : ByteArray) (i7 : Int) (s8 : ByteArray) (i10 : Int) (s11 : ByteArray) (i13 : Int) (s14 : ByteArray) : Option Thing :=
    some (Thing.mk a0.ID (Point.mk i1 i2) (A4.mk (Field.mk i4 s5) (Field.mk i7 s8) (Field.mk i10 s11) (Field.mk i13 s14)))
theorem F24_u15_ok (n : Nat) (a0 : Thing) (a1 : Delta) (i1 : Int) (i2 : Int) (i4 : Int) (s5 : ByteArray) (i7 : Int) (s8 : ByteArray) (i10 : Int) (s11 : ByteArray) (i13 : Int) (s14 : ByteArray) : SimL Try.prog D (n + 8) (n + 4) pc24_c22 [(3, .one (.ptr 3 0)), (4, .one (.ptr 4 0)), (5, .one (.ptr 5 0)), (6, .one (li .i64 4))] ((3, some (.cells [li .i64 a1.ID, li .u8 a1.Mask, li .i64 a1.At.X, li .i64 a1.At.Y, li .i64 a1.F.a0.N, ls a1.F.a0.Text, li .i64 a1.F.a1.N, ls a1.F.a1.Text, li .i64 a1.F.a2.N, ls a1.F.a2.Text, li .i64 a1.F.a3.N, ls a1.F.a3.Text])) :: ((4, some (.cells [li .i64 0, li .i64 0, li .i64 0, li .i64 0, ls ByteArray.empty, li .i64 0, ls ByteArray.empty, li .i64 0, ls ByteArray.empty, li .i64 0, ls ByteArray.empty])) :: ((5, some (.cells [li .i64 a0.ID, li .i64 i1, li .i64 i2, li .i64 i4, ls s5, li .i64 i7, ls s8, li .i64 i10, ls s11, li .i64 i13, ls s14])) :: []))) (F24_u15 n a0 i1 i2 i4 s5 i7 s8 i10 s11 i13 s14) (QB 0 (QT Try.prog D (n + 8) pc24_c28 (QF pc24_r 0 F24_e))) := by
    unfold F24_u15
    refine SimL.succ ?_
    refine Sim.seq ?_
    refine Sim.seq ?_
    refine Sim.region [(3, .one (.ptr 3 0)), (4, .one (.ptr 4 0)), (5, .one (.ptr 5 0)), (6, .one (li .i64 4))] ((3, some (.cells [li .i64 a1.ID, li .u8 a1.Mask, li .i64 a1.At.X, li .i64 a1.At.Y, li .i64 a1.F.a0.N, ls a1.F.a0.Text, li .i64 a1.F.a1.N, ls a1.F.a1.Text, li .i64 a1.F.a2.N, ls a1.F.a2.Text, li .i64 a1.F.a3.N, ls a1.F.a3.Text])) :: ((4, some (.cells [li .i64 0, li .i64 0, li .i64 0, li .i64 0, ls ByteArray.empty, li .i64 0, ls ByteArray.empty, li .i64 0, ls ByteArray.empty, li .i64 0, ls ByteArray.empty])) :: ((5, some (.cells [li .i64 a0.ID, li .i64 i1, li .i64 i2, li .i64 i4, ls s5, li .i64 i7, ls s8, li .i64 i10, ls s11, li .i64 i13, ls s14])) :: []))) (by kernel_rfl) ?_
    refine SimI.run 2 [(16, .one (lb false)), (15, .one (li .i64 4))] [] (by kernel_rfl) ?_
    refine SimI.done (by kernel_rfl) ?_
    refine SimE.thenN ?_
    refine Sim.condF (by kernel_rfl) ?_
    refine Sim.exit ?_
    refine SimE.thenX ?_
    refine SimE.loopX ?_
    refine SimE.blockX ?_
    refine SimE.thenN ?_
    refine Sim.seq ?_
    refine Sim.region0 ?_
    refine SimI.run 2 [(34, .agg [li .i64 a0.ID, li .i64 i1, li .i64 i2, li .i64 i4, ls s5, li .i64 i7, ls s8, li .i64 i10, ls s11, li .i64 i13, ls s14])] [(4, some (.cells [li .i64 a0.ID, li .i64 i1, li .i64 i2, li .i64 i4, ls s5, li .i64 i7, ls s8, li .i64 i10, ls s11, li .i64 i13, ls s14]))] (by kernel_rfl) ?_
    refine SimI.done (by kernel_rfl) ?_
    refine SimE.thenN ?_
    refine Sim.ret ?_
    exact SimE.fin (by kernel_rfl)

def F24_u12 (n : Nat) (a0 : Thing) (a1 : Delta) (i1 : Int) (i2 : Int) (i4 : Int) (s5 : ByteArray) (i7 : Int) (s8 : ByteArray) (i10 : Int) (s11 : ByteArray) : Option Thing :=
    if (bitsI .and .u8 (shrI .u8 a1.Mask 4) 1) != 0 then
      F24_u15 n a0 i1 i2 i4 s5 i7 s8 i10 s11 a1.F.a3.N a1.F.a3.Text
    else
      F24_u15 n a0 i1 i2 i4 s5 i7 s8 i10 s11 a0.F.a3.N a0.F.a3.Text
theorem F24_u12_ok (n : Nat) (a0 : Thing) (a1 : Delta) (i1 : Int) (i2 : Int) (i4 : Int) (s5 : ByteArray) (i7 : Int) (s8 : ByteArray) (i10 : Int) (s11 : ByteArray) : SimL Try.prog D (n + 8) (n + 5) pc24_c22 [(3, .one (.ptr 3 0)), (4, .one (.ptr 4 0)), (5, .one (.ptr 5 0)), (6, .one (li .i64 3))] ((3, some (.cells [li .i64 a1.ID, li .u8 a1.Mask, li .i64 a1.At.X, li .i64 a1.At.Y, li .i64 a1.F.a0.N, ls a1.F.a0.Text, li .i64 a1.F.a1.N, ls a1.F.a1.Text, li .i64 a1.F.a2.N, ls a1.F.a2.Text, li .i64 a1.F.a3.N, ls a1.F.a3.Text])) :: ((4, some (.cells [li .i64 0, li .i64 0, li .i64 0, li .i64 0, ls ByteArray.empty, li .i64 0, ls ByteArray.empty, li .i64 0, ls ByteArray.empty, li .i64 0, ls ByteArray.empty])) :: ((5, some (.cells [li .i64 a0.ID, li .i64 i1, li .i64 i2, li .i64 i4, ls s5, li .i64 i7, ls s8, li .i64 i10, ls s11, li .i64 a0.F.a3.N, ls a0.F.a3.Text])) :: []))) (F24_u12 n a0 a1 i1 i2 i4 s5 i7 s8 i10 s11) (QB 0 (QT Try.prog D (n + 8) pc24_c28 (QF pc24_r 0 F24_e))) := by
    unfold F24_u12
    refine SimL.succ ?_
    refine Sim.seq ?_
    refine Sim.seq ?_
    refine Sim.region [(3, .one (.ptr 3 0)), (4, .one (.ptr 4 0)), (5, .one (.ptr 5 0)), (6, .one (li .i64 3))] ((3, some (.cells [li .i64 a1.ID, li .u8 a1.Mask, li .i64 a1.At.X, li .i64 a1.At.Y, li .i64 a1.F.a0.N, ls a1.F.a0.Text, li .i64 a1.F.a1.N, ls a1.F.a1.Text, li .i64 a1.F.a2.N, ls a1.F.a2.Text, li .i64 a1.F.a3.N, ls a1.F.a3.Text])) :: ((4, some (.cells [li .i64 0, li .i64 0, li .i64 0, li .i64 0, ls ByteArray.empty, li .i64 0, ls ByteArray.empty, li .i64 0, ls ByteArray.empty, li .i64 0, ls ByteArray.empty])) :: ((5, some (.cells [li .i64 a0.ID, li .i64 i1, li .i64 i2, li .i64 i4, ls s5, li .i64 i7, ls s8, li .i64 i10, ls s11, li .i64 a0.F.a3.N, ls a0.F.a3.Text])) :: []))) (by kernel_rfl) ?_
    refine SimI.run 2 [(16, .one (lb true)), (15, .one (li .i64 3))] [] (by kernel_rfl) ?_
    refine SimI.done (by kernel_rfl) ?_
    refine SimE.thenN ?_
    refine Sim.condT (by kernel_rfl) ?_
    refine Sim.skip ?_
    refine SimE.thenN ?_
    refine Sim.seq ?_
    refine Sim.block ?_
    refine Sim.seq ?_
    refine Sim.region0 ?_
    refine SimI.run 8 [(26, .one (lb ((bitsI .and .u8 (shrI .u8 a1.Mask 4) 1) != 0))), (25, .one (li .u8 (bitsI .and .u8 (shrI .u8 a1.Mask 4) 1))), (24, .one (li .u8 (shrI .u8 a1.Mask 4))), (23, .one (li .u64 4)), (22, .one (li .i64 4)), (21, .one (li .i64 3)), (20, .one (li .u8 a1.Mask)), (19, .one (.ptr 3 1))] [] (by kernel_rfl) ?_
    refine SimI.done (by kernel_rfl) ?_
    refine SimE.thenN ?_
    refine Sim.cond ((bitsI .and .u8 (shrI .u8 a1.Mask 4) 1) != 0) (by kernel_rfl) ?_ ?_
    · refine Sim.region0 ?_
      refine SimI.run 8 [(33, .one (.ptr 5 9)), (32, .one (.ptr 5 3)), (31, .agg [li .i64 a1.F.a3.N, ls a1.F.a3.Text]), (30, .one (.ptr 3 10)), (29, .one (.ptr 3 4)), (28, .one (li .i64 3)), (27, .one (li .i64 3))] [(5, some (.cells [li .i64 a0.ID, li .i64 i1, li .i64 i2, li .i64 i4, ls s5, li .i64 i7, ls s8, li .i64 i10, ls s11, li .i64 a1.F.a3.N, ls a1.F.a3.Text]))] (by kernel_rfl) ?_
      refine SimI.done (by kernel_rfl) ?_
      refine SimE.blockN ?_
      refine SimE.thenN ?_
      refine Sim.region0 ?_
      refine SimI.run 3 [(6, .one (li .i64 4)), (18, .one (li .i64 4)), (17, .one (li .i64 3))] [] (by kernel_rfl) ?_
      refine SimI.done (by kernel_rfl) ?_
      refine SimE.loopN ?_
      refine SimL.pre (ts := [3, 4, 5, 6]) (os := [3, 4, 5]) [(3, .one (.ptr 3 0)), (4, .one (.ptr 4 0)), (5, .one (.ptr 5 0)), (6, .one (li .i64 4))] ((3, some (.cells [li .i64 a1.ID, li .u8 a1.Mask, li .i64 a1.At.X, li .i64 a1.At.Y, li .i64 a1.F.a0.N, ls a1.F.a0.Text, li .i64 a1.F.a1.N, ls a1.F.a1.Text, li .i64 a1.F.a2.N, ls a1.F.a2.Text, li .i64 a1.F.a3.N, ls a1.F.a3.Text])) :: ((4, some (.cells [li .i64 0, li .i64 0, li .i64 0, li .i64 0, ls ByteArray.empty, li .i64 0, ls ByteArray.empty, li .i64 0, ls ByteArray.empty, li .i64 0, ls ByteArray.empty])) :: ((5, some (.cells [li .i64 a0.ID, li .i64 i1, li .i64 i2, li .i64 i4, ls s5, li .i64 i7, ls s8, li .i64 i10, ls s11, li .i64 a1.F.a3.N, ls a1.F.a3.Text])) :: []))) (by kernel_rfl) (by kernel_rfl) (by kernel_rfl) ?_
      exact F24_u15_ok n a0 a1 i1 i2 i4 s5 i7 s8 i10 s11 a1.F.a3.N a1.F.a3.Text
    · refine Sim.skip ?_
      refine SimE.blockN ?_
      refine SimE.thenN ?_
      refine Sim.region0 ?_
      refine SimI.run 3 [(6, .one (li .i64 4)), (18, .one (li .i64 4)), (17, .one (li .i64 3))] [] (by kernel_rfl) ?_
      refine SimI.done (by kernel_rfl) ?_
      refine SimE.loopN ?_
      refine SimL.pre (ts := [3, 4, 5, 6]) (os := [3, 4, 5]) [(3, .one (.ptr 3 0)), (4, .one (.ptr 4 0)), (5, .one (.ptr 5 0)), (6, .one (li .i64 4))] ((3, some (.cells [li .i64 a1.ID, li .u8 a1.Mask, li .i64 a1.At.X, li .i64 a1.At.Y, li .i64 a1.F.a0.N, ls a1.F.a0.Text, li .i64 a1.F.a1.N, ls a1.F.a1.Text, li .i64 a1.F.a2.N, ls a1.F.a2.Text, li .i64 a1.F.a3.N, ls a1.F.a3.Text])) :: ((4, some (.cells [li .i64 0, li .i64 0, li .i64 0, li .i64 0, ls ByteArray.empty, li .i64 0, ls ByteArray.empty, li .i64 0, ls ByteArray.empty, li .i64 0, ls ByteArray.empty])) :: ((5, some (.cells [li .i64 a0.ID, li .i64 i1, li .i64 i2, li .i64 i4, ls s5, li .i64 i7, ls s8, li .i64 i10, ls s11, li .i64 a0.F.a3.N, ls a0.F.a3.Text])) :: []))) (by kernel_rfl) (by kernel_rfl) (by kernel_rfl) ?_
      exact F24_u15_ok n a0 a1 i1 i2 i4 s5 i7 s8 i10 s11 a0.F.a3.N a0.F.a3.Text

def F24_u9 (n : Nat) (a0 : Thing) (a1 : Delta) (i1 : Int) (i2 : Int) (i4 : Int) (s5 : ByteArray) (i7 : Int) (s8 : ByteArray) : Option Thing :=
    if (bitsI .and .u8 (shrI .u8 a1.Mask 3) 1) != 0 then
      F24_u12 n a0 a1 i1 i2 i4 s5 i7 s8 a1.F.a2.N a1.F.a2.Text
    else
      F24_u12 n a0 a1 i1 i2 i4 s5 i7 s8 a0.F.a2.N a0.F.a2.Text
theorem F24_u9_ok (n : Nat) (a0 : Thing) (a1 : Delta) (i1 : Int) (i2 : Int) (i4 : Int) (s5 : ByteArray) (i7 : Int) (s8 : ByteArray) : SimL Try.prog D (n + 8) (n + 6) pc24_c22 [(3, .one (.ptr 3 0)), (4, .one (.ptr 4 0)), (5, .one (.ptr 5 0)), (6, .one (li .i64 2))] ((3, some (.cells [li .i64 a1.ID, li .u8 a1.Mask, li .i64 a1.At.X, li .i64 a1.At.Y, li .i64 a1.F.a0.N, ls a1.F.a0.Text, li .i64 a1.F.a1.N, ls a1.F.a1.Text, li .i64 a1.F.a2.N, ls a1.F.a2.Text, li .i64 a1.F.a3.N, ls a1.F.a3.Text])) :: ((4, some (.cells [li .i64 0, li .i64 0, li .i64 0, li .i64 0, ls ByteArray.empty, li .i64 0, ls ByteArray.empty, li .i64 0, ls ByteArray.empty, li .i64 0, ls ByteArray.empty])) :: ((5, some (.cells [li .i64 a0.ID, li .i64 i1, li .i64 i2, li .i64 i4, ls s5, li .i64 i7, ls s8, li .i64 a0.F.a2.N, ls a0.F.a2.Text, li .i64 a0.F.a3.N, ls a0.F.a3.Text])) :: []))) (F24_u9 n a0 a1 i1 i2 i4 s5 i7 s8) (QB 0 (QT Try.prog D (n + 8) pc24_c28 (QF pc24_r 0 F24_e))) := by
    unfold F24_u9
    refine SimL.succ ?_
    refine Sim.seq ?_
    refine Sim.seq ?_
    refine Sim.region [(3, .one (.ptr 3 0)), (4, .one (.ptr 4 0)), (5, .one (.ptr 5 0)), (6, .one (li .i64 2))] ((3, some (.cells [li .i64 a1.ID, li .u8 a1.Mask, li .i64 a1.At.X, li .i64 a1.At.Y, li .i64 a1.F.a0.N, ls a1.F.a0.Text, li .i64 a1.F.a1.N, ls a1.F.a1.Text, li .i64 a1.F.a2.N, ls a1.F.a2.Text, li .i64 a1.F.a3.N, ls a1.F.a3.Text])) :: ((4, some (.cells [li .i64 0, li .i64 0, li .i64 0, li .i64 0, ls ByteArray.empty, li .i64 0, ls ByteArray.empty, li .i64 0, ls ByteArray.empty, li .i64 0, ls ByteArray.empty])) :: ((5, some (.cells [li .i64 a0.ID, li .i64 i1, li .i64 i2, li .i64 i4, ls s5, li .i64 i7, ls s8, li .i64 a0.F.a2.N, ls a0.F.a2.Text, li .i64 a0.F.a3.N, ls a0.F.a3.Text])) :: []))) (by kernel_rfl) ?_
    refine SimI.run 2 [(16, .one (lb true)), (15, .one (li .i64 2))] [] (by kernel_rfl) ?_
    refine SimI.done (by kernel_rfl) ?_
    refine SimE.thenN ?_
    refine Sim.condT (by kernel_rfl) ?_
    refine Sim.skip ?_
    refine SimE.thenN ?_
    refine Sim.seq ?_
    refine Sim.block ?_
    refine Sim.seq ?_
    refine Sim.region0 ?_
    refine SimI.run 8 [(26, .one (lb ((bitsI .and .u8 (shrI .u8 a1.Mask 3) 1) != 0))), (25, .one (li .u8 (bitsI .and .u8 (shrI .u8 a1.Mask 3) 1))), (24, .one (li .u8 (shrI .u8 a1.Mask 3))), (23, .one (li .u64 3)), (22, .one (li .i64 3)), (21, .one (li .i64 2)), (20, .one (li .u8 a1.Mask)), (19, .one (.ptr 3 1))] [] (by kernel_rfl) ?_
    refine SimI.done (by kernel_rfl) ?_
    refine SimE.thenN ?_
    refine Sim.cond ((bitsI .and .u8 (shrI .u8 a1.Mask 3) 1) != 0) (by kernel_rfl) ?_ ?_
    · refine Sim.region0 ?_
      refine SimI.run 8 [(33, .one (.ptr 5 7)), (32, .one (.ptr 5 3)), (31, .agg [li .i64 a1.F.a2.N, ls a1.F.a2.Text]), (30, .one (.ptr 3 8)), (29, .one (.ptr 3 4)), (28, .one (li .i64 2)), (27, .one (li .i64 2))] [(5, some (.cells [li .i64 a0.ID, li .i64 i1, li .i64 i2, li .i64 i4, ls s5, li .i64 i7, ls s8, li .i64 a1.F.a2.N, ls a1.F.a2.Text, li .i64 a0.F.a3.N, ls a0.F.a3.Text]))] (by kernel_rfl) ?_
      refine SimI.done (by kernel_rfl) ?_
      refine SimE.blockN ?_
      refine SimE.thenN ?_
      refine Sim.region0 ?_
      refine SimI.run 3 [(6, .one (li .i64 3)), (18, .one (li .i64 3)), (17, .one (li .i64 2))] [] (by kernel_rfl) ?_
      refine SimI.done (by kernel_rfl) ?_
      refine SimE.loopN ?_
      refine SimL.pre (ts := [3, 4, 5, 6]) (os := [3, 4, 5]) [(3, .one (.ptr 3 0)), (4, .one (.ptr 4 0)), (5, .one (.ptr 5 0)), (6, .one (li .i64 3))] ((3, some (.cells [li .i64 a1.ID, li .u8 a1.Mask, li .i64 a1.At.X, li .i64 a1.At.Y, li .i64 a1.F.a0.N, ls a1.F.a0.Text, li .i64 a1.F.a1.N, ls a1.F.a1.Text, li .i64 a1.F.a2.N, ls a1.F.a2.Text, li .i64 a1.F.a3.N, ls a1.F.a3.Text])) :: ((4, some (.cells [li .i64 0, li .i64 0, li .i64 0, li .i64 0, ls ByteArray.empty, li .i64 0, ls ByteArray.empty, li .i64 0, ls ByteArray.empty, li .i64 0, ls ByteArray.empty])) :: ((5, some (.cells [li .i64 a0.ID, li .i64 i1, li .i64 i2, li .i64 i4, ls s5, li .i64 i7, ls s8, li .i64 a1.F.a2.N, ls a1.F.a2.Text, li .i64 a0.F.a3.N, ls a0.F.a3.Text])) :: []))) (by kernel_rfl) (by kernel_rfl) (by kernel_rfl) ?_
      exact F24_u12_ok n a0 a1 i1 i2 i4 s5 i7 s8 a1.F.a2.N a1.F.a2.Text
    · refine Sim.skip ?_
      refine SimE.blockN ?_
      refine SimE.thenN ?_
      refine Sim.region0 ?_
      refine SimI.run 3 [(6, .one (li .i64 3)), (18, .one (li .i64 3)), (17, .one (li .i64 2))] [] (by kernel_rfl) ?_
      refine SimI.done (by kernel_rfl) ?_
      refine SimE.loopN ?_
      refine SimL.pre (ts := [3, 4, 5, 6]) (os := [3, 4, 5]) [(3, .one (.ptr 3 0)), (4, .one (.ptr 4 0)), (5, .one (.ptr 5 0)), (6, .one (li .i64 3))] ((3, some (.cells [li .i64 a1.ID, li .u8 a1.Mask, li .i64 a1.At.X, li .i64 a1.At.Y, li .i64 a1.F.a0.N, ls a1.F.a0.Text, li .i64 a1.F.a1.N, ls a1.F.a1.Text, li .i64 a1.F.a2.N, ls a1.F.a2.Text, li .i64 a1.F.a3.N, ls a1.F.a3.Text])) :: ((4, some (.cells [li .i64 0, li .i64 0, li .i64 0, li .i64 0, ls ByteArray.empty, li .i64 0, ls ByteArray.empty, li .i64 0, ls ByteArray.empty, li .i64 0, ls ByteArray.empty])) :: ((5, some (.cells [li .i64 a0.ID, li .i64 i1, li .i64 i2, li .i64 i4, ls s5, li .i64 i7, ls s8, li .i64 a0.F.a2.N, ls a0.F.a2.Text, li .i64 a0.F.a3.N, ls a0.F.a3.Text])) :: []))) (by kernel_rfl) (by kernel_rfl) (by kernel_rfl) ?_
      exact F24_u12_ok n a0 a1 i1 i2 i4 s5 i7 s8 a0.F.a2.N a0.F.a2.Text

def F24_u6 (n : Nat) (a0 : Thing) (a1 : Delta) (i1 : Int) (i2 : Int) (i4 : Int) (s5 : ByteArray) : Option Thing :=
    if (bitsI .and .u8 (shrI .u8 a1.Mask 2) 1) != 0 then
      F24_u9 n a0 a1 i1 i2 i4 s5 a1.F.a1.N a1.F.a1.Text
    else
      F24_u9 n a0 a1 i1 i2 i4 s5 a0.F.a1.N a0.F.a1.Text
theorem F24_u6_ok (n : Nat) (a0 : Thing) (a1 : Delta) (i1 : Int) (i2 : Int) (i4 : Int) (s5 : ByteArray) : SimL Try.prog D (n + 8) (n + 7) pc24_c22 [(3, .one (.ptr 3 0)), (4, .one (.ptr 4 0)), (5, .one (.ptr 5 0)), (6, .one (li .i64 1))] ((3, some (.cells [li .i64 a1.ID, li .u8 a1.Mask, li .i64 a1.At.X, li .i64 a1.At.Y, li .i64 a1.F.a0.N, ls a1.F.a0.Text, li .i64 a1.F.a1.N, ls a1.F.a1.Text, li .i64 a1.F.a2.N, ls a1.F.a2.Text, li .i64 a1.F.a3.N, ls a1.F.a3.Text])) :: ((4, some (.cells [li .i64 0, li .i64 0, li .i64 0, li .i64 0, ls ByteArray.empty, li .i64 0, ls ByteArray.empty, li .i64 0, ls ByteArray.empty, li .i64 0, ls ByteArray.empty])) :: ((5, some (.cells [li .i64 a0.ID, li .i64 i1, li .i64 i2, li .i64 i4, ls s5, li .i64 a0.F.a1.N, ls a0.F.a1.Text, li .i64 a0.F.a2.N, ls a0.F.a2.Text, li .i64 a0.F.a3.N, ls a0.F.a3.Text])) :: []))) (F24_u6 n a0 a1 i1 i2 i4 s5) (QB 0 (QT Try.prog D (n + 8) pc24_c28 (QF pc24_r 0 F24_e))) := by
    unfold F24_u6
    refine SimL.succ ?_
    refine Sim.seq ?_
    refine Sim.seq ?_
    refine Sim.region [(3, .one (.ptr 3 0)), (4, .one (.ptr 4 0)), (5, .one (.ptr 5 0)), (6, .one (li .i64 1))] ((3, some (.cells [li .i64 a1.ID, li .u8 a1.Mask, li .i64 a1.At.X, li .i64 a1.At.Y, li .i64 a1.F.a0.N, ls a1.F.a0.Text, li .i64 a1.F.a1.N, ls a1.F.a1.Text, li .i64 a1.F.a2.N, ls a1.F.a2.Text, li .i64 a1.F.a3.N, ls a1.F.a3.Text])) :: ((4, some (.cells [li .i64 0, li .i64 0, li .i64 0, li .i64 0, ls ByteArray.empty, li .i64 0, ls ByteArray.empty, li .i64 0, ls ByteArray.empty, li .i64 0, ls ByteArray.empty])) :: ((5, some (.cells [li .i64 a0.ID, li .i64 i1, li .i64 i2, li .i64 i4, ls s5, li .i64 a0.F.a1.N, ls a0.F.a1.Text, li .i64 a0.F.a2.N, ls a0.F.a2.Text, li .i64 a0.F.a3.N, ls a0.F.a3.Text])) :: []))) (by kernel_rfl) ?_
    refine SimI.run 2 [(16, .one (lb true)), (15, .one (li .i64 1))] [] (by kernel_rfl) ?_
    refine SimI.done (by kernel_rfl) ?_
    refine SimE.thenN ?_
    refine Sim.condT (by kernel_rfl) ?_
    refine Sim.skip ?_
    refine SimE.thenN ?_
    refine Sim.seq ?_
    refine Sim.block ?_
    refine Sim.seq ?_
    refine Sim.region0 ?_
    refine SimI.run 8 [(26, .one (lb ((bitsI .and .u8 (shrI .u8 a1.Mask 2) 1) != 0))), (25, .one (li .u8 (bitsI .and .u8 (shrI .u8 a1.Mask 2) 1))), (24, .one (li .u8 (shrI .u8 a1.Mask 2))), (23, .one (li .u64 2)), (22, .one (li .i64 2)), (21, .one (li .i64 1)), (20, .one (li .u8 a1.Mask)), (19, .one (.ptr 3 1))] [] (by kernel_rfl) ?_
    refine SimI.done (by kernel_rfl) ?_
    refine SimE.thenN ?_
    refine Sim.cond ((bitsI .and .u8 (shrI .u8 a1.Mask 2) 1) != 0) (by kernel_rfl) ?_ ?_
    · refine Sim.region0 ?_
      refine SimI.run 8 [(33, .one (.ptr 5 5)), (32, .one (.ptr 5 3)), (31, .agg [li .i64 a1.F.a1.N, ls a1.F.a1.Text]), (30, .one (.ptr 3 6)), (29, .one (.ptr 3 4)), (28, .one (li .i64 1)), (27, .one (li .i64 1))] [(5, some (.cells [li .i64 a0.ID, li .i64 i1, li .i64 i2, li .i64 i4, ls s5, li .i64 a1.F.a1.N, ls a1.F.a1.Text, li .i64 a0.F.a2.N, ls a0.F.a2.Text, li .i64 a0.F.a3.N, ls a0.F.a3.Text]))] (by kernel_rfl) ?_
      refine SimI.done (by kernel_rfl) ?_
      refine SimE.blockN ?_
      refine SimE.thenN ?_
      refine Sim.region0 ?_
      refine SimI.run 3 [(6, .one (li .i64 2)), (18, .one (li .i64 2)), (17, .one (li .i64 1))] [] (by kernel_rfl) ?_
      refine SimI.done (by kernel_rfl) ?_
      refine SimE.loopN ?_
      refine SimL.pre (ts := [3, 4, 5, 6]) (os := [3, 4, 5]) [(3, .one (.ptr 3 0)), (4, .one (.ptr 4 0)), (5, .one (.ptr 5 0)), (6, .one (li .i64 2))] ((3, some (.cells [li .i64 a1.ID, li .u8 a1.Mask, li .i64 a1.At.X, li .i64 a1.At.Y, li .i64 a1.F.a0.N, ls a1.F.a0.Text, li .i64 a1.F.a1.N, ls a1.F.a1.Text, li .i64 a1.F.a2.N, ls a1.F.a2.Text, li .i64 a1.F.a3.N, ls a1.F.a3.Text])) :: ((4, some (.cells [li .i64 0, li .i64 0, li .i64 0, li .i64 0, ls ByteArray.empty, li .i64 0, ls ByteArray.empty, li .i64 0, ls ByteArray.empty, li .i64 0, ls ByteArray.empty])) :: ((5, some (.cells [li .i64 a0.ID, li .i64 i1, li .i64 i2, li .i64 i4, ls s5, li .i64 a1.F.a1.N, ls a1.F.a1.Text, li .i64 a0.F.a2.N, ls a0.F.a2.Text, li .i64 a0.F.a3.N, ls a0.F.a3.Text])) :: []))) (by kernel_rfl) (by kernel_rfl) (by kernel_rfl) ?_
      exact F24_u9_ok n a0 a1 i1 i2 i4 s5 a1.F.a1.N a1.F.a1.Text
    · refine Sim.skip ?_
      refine SimE.blockN ?_
      refine SimE.thenN ?_
      refine Sim.region0 ?_
      refine SimI.run 3 [(6, .one (li .i64 2)), (18, .one (li .i64 2)), (17, .one (li .i64 1))] [] (by kernel_rfl) ?_
      refine SimI.done (by kernel_rfl) ?_
      refine SimE.loopN ?_
      refine SimL.pre (ts := [3, 4, 5, 6]) (os := [3, 4, 5]) [(3, .one (.ptr 3 0)), (4, .one (.ptr 4 0)), (5, .one (.ptr 5 0)), (6, .one (li .i64 2))] ((3, some (.cells [li .i64 a1.ID, li .u8 a1.Mask, li .i64 a1.At.X, li .i64 a1.At.Y, li .i64 a1.F.a0.N, ls a1.F.a0.Text, li .i64 a1.F.a1.N, ls a1.F.a1.Text, li .i64 a1.F.a2.N, ls a1.F.a2.Text, li .i64 a1.F.a3.N, ls a1.F.a3.Text])) :: ((4, some (.cells [li .i64 0, li .i64 0, li .i64 0, li .i64 0, ls ByteArray.empty, li .i64 0, ls ByteArray.empty, li .i64 0, ls ByteArray.empty, li .i64 0, ls ByteArray.empty])) :: ((5, some (.cells [li .i64 a0.ID, li .i64 i1, li .i64 i2, li .i64 i4, ls s5, li .i64 a0.F.a1.N, ls a0.F.a1.Text, li .i64 a0.F.a2.N, ls a0.F.a2.Text, li .i64 a0.F.a3.N, ls a0.F.a3.Text])) :: []))) (by kernel_rfl) (by kernel_rfl) (by kernel_rfl) ?_
      exact F24_u9_ok n a0 a1 i1 i2 i4 s5 a0.F.a1.N a0.F.a1.Text

def F24_j3 (n : Nat) (a0 : Thing) (a1 : Delta) (i1 : Int) (i2 : Int) : Option Thing :=
    if (bitsI .and .u8 (shrI .u8 a1.Mask 1) 1) != 0 then
      F24_u6 n a0 a1 i1 i2 a1.F.a0.N a1.F.a0.Text
    else
      F24_u6 n a0 a1 i1 i2 a0.F.a0.N a0.F.a0.Text
theorem F24_j3_ok (n : Nat) (a0 : Thing) (a1 : Delta) (i1 : Int) (i2 : Int) : Sim Try.prog D (n + 8) pc24_c29 [(3, .one (.ptr 3 0)), (4, .one (.ptr 4 0)), (5, .one (.ptr 5 0))] ((3, some (.cells [li .i64 a1.ID, li .u8 a1.Mask, li .i64 a1.At.X, li .i64 a1.At.Y, li .i64 a1.F.a0.N, ls a1.F.a0.Text, li .i64 a1.F.a1.N, ls a1.F.a1.Text, li .i64 a1.F.a2.N, ls a1.F.a2.Text, li .i64 a1.F.a3.N, ls a1.F.a3.Text])) :: ((4, some (.cells [li .i64 0, li .i64 0, li .i64 0, li .i64 0, ls ByteArray.empty, li .i64 0, ls ByteArray.empty, li .i64 0, ls ByteArray.empty, li .i64 0, ls ByteArray.empty])) :: ((5, some (.cells [li .i64 a0.ID, li .i64 i1, li .i64 i2, li .i64 a0.F.a0.N, ls a0.F.a0.Text, li .i64 a0.F.a1.N, ls a0.F.a1.Text, li .i64 a0.F.a2.N, ls a0.F.a2.Text, li .i64 a0.F.a3.N, ls a0.F.a3.Text])) :: []))) (F24_j3 n a0 a1 i1 i2) (QF pc24_r 0 F24_e) := by
    unfold F24_j3
    refine Sim.seq ?_
    refine Sim.seq ?_
    refine Sim.region [(3, .one (.ptr 3 0)), (4, .one (.ptr 4 0)), (5, .one (.ptr 5 0))] ((3, some (.cells [li .i64 a1.ID, li .u8 a1.Mask, li .i64 a1.At.X, li .i64 a1.At.Y, li .i64 a1.F.a0.N, ls a1.F.a0.Text, li .i64 a1.F.a1.N, ls a1.F.a1.Text, li .i64 a1.F.a2.N, ls a1.F.a2.Text, li .i64 a1.F.a3.N, ls a1.F.a3.Text])) :: ((4, some (.cells [li .i64 0, li .i64 0, li .i64 0, li .i64 0, ls ByteArray.empty, li .i64 0, ls ByteArray.empty, li .i64 0, ls ByteArray.empty, li .i64 0, ls ByteArray.empty])) :: ((5, some (.cells [li .i64 a0.ID, li .i64 i1, li .i64 i2, li .i64 a0.F.a0.N, ls a0.F.a0.Text, li .i64 a0.F.a1.N, ls a0.F.a1.Text, li .i64 a0.F.a2.N, ls a0.F.a2.Text, li .i64 a0.F.a3.N, ls a0.F.a3.Text])) :: []))) (by kernel_rfl) ?_
    refine SimI.run 1 [(6, .one (li .i64 0))] [] (by kernel_rfl) ?_
    refine SimI.done (by kernel_rfl) ?_
    refine SimE.thenN ?_
    refine Sim.block ?_
    refine Sim.loop ?_
    refine SimL.succ ?_
    refine Sim.seq ?_
    refine Sim.seq ?_
    refine Sim.region [(3, .one (.ptr 3 0)), (4, .one (.ptr 4 0)), (5, .one (.ptr 5 0)), (6, .one (li .i64 0))] ((3, some (.cells [li .i64 a1.ID, li .u8 a1.Mask, li .i64 a1.At.X, li .i64 a1.At.Y, li .i64 a1.F.a0.N, ls a1.F.a0.Text, li .i64 a1.F.a1.N, ls a1.F.a1.Text, li .i64 a1.F.a2.N, ls a1.F.a2.Text, li .i64 a1.F.a3.N, ls a1.F.a3.Text])) :: ((4, some (.cells [li .i64 0, li .i64 0, li .i64 0, li .i64 0, ls ByteArray.empty, li .i64 0, ls ByteArray.empty, li .i64 0, ls ByteArray.empty, li .i64 0, ls ByteArray.empty])) :: ((5, some (.cells [li .i64 a0.ID, li .i64 i1, li .i64 i2, li .i64 a0.F.a0.N, ls a0.F.a0.Text, li .i64 a0.F.a1.N, ls a0.F.a1.Text, li .i64 a0.F.a2.N, ls a0.F.a2.Text, li .i64 a0.F.a3.N, ls a0.F.a3.Text])) :: []))) (by kernel_rfl) ?_
    refine SimI.run 2 [(16, .one (lb true)), (15, .one (li .i64 0))] [] (by kernel_rfl) ?_
    refine SimI.done (by kernel_rfl) ?_
    refine SimE.thenN ?_
    refine Sim.condT (by kernel_rfl) ?_
    refine Sim.skip ?_
    refine SimE.thenN ?_
    refine Sim.seq ?_
    refine Sim.block ?_
    refine Sim.seq ?_
    refine Sim.region0 ?_
    refine SimI.run 8 [(26, .one (lb ((bitsI .and .u8 (shrI .u8 a1.Mask 1) 1) != 0))), (25, .one (li .u8 (bitsI .and .u8 (shrI .u8 a1.Mask 1) 1))), (24, .one (li .u8 (shrI .u8 a1.Mask 1))), (23, .one (li .u64 1)), (22, .one (li .i64 1)), (21, .one (li .i64 0)), (20, .one (li .u8 a1.Mask)), (19, .one (.ptr 3 1))] [] (by kernel_rfl) ?_
    refine SimI.done (by kernel_rfl) ?_
    refine SimE.thenN ?_
    refine Sim.cond ((bitsI .and .u8 (shrI .u8 a1.Mask 1) 1) != 0) (by kernel_rfl) ?_ ?_
    · refine Sim.region0 ?_
      refine SimI.run 8 [(33, .one (.ptr 5 3)), (32, .one (.ptr 5 3)), (31, .agg [li .i64 a1.F.a0.N, ls a1.F.a0.Text]), (30, .one (.ptr 3 4)), (29, .one (.ptr 3 4)), (28, .one (li .i64 0)), (27, .one (li .i64 0))] [(5, some (.cells [li .i64 a0.ID, li .i64 i1, li .i64 i2, li .i64 a1.F.a0.N, ls a1.F.a0.Text, li .i64 a0.F.a1.N, ls a0.F.a1.Text, li .i64 a0.F.a2.N, ls a0.F.a2.Text, li .i64 a0.F.a3.N, ls a0.F.a3.Text]))] (by kernel_rfl) ?_
      refine SimI.done (by kernel_rfl) ?_
      refine SimE.blockN ?_
      refine SimE.thenN ?_
      refine Sim.region0 ?_
      refine SimI.run 3 [(6, .one (li .i64 1)), (18, .one (li .i64 1)), (17, .one (li .i64 0))] [] (by kernel_rfl) ?_
      refine SimI.done (by kernel_rfl) ?_
      refine SimE.loopN ?_
      refine SimL.pre (ts := [3, 4, 5, 6]) (os := [3, 4, 5]) [(3, .one (.ptr 3 0)), (4, .one (.ptr 4 0)), (5, .one (.ptr 5 0)), (6, .one (li .i64 1))] ((3, some (.cells [li .i64 a1.ID, li .u8 a1.Mask, li .i64 a1.At.X, li .i64 a1.At.Y, li .i64 a1.F.a0.N, ls a1.F.a0.Text, li .i64 a1.F.a1.N, ls a1.F.a1.Text, li .i64 a1.F.a2.N, ls a1.F.a2.Text, li .i64 a1.F.a3.N, ls a1.F.a3.Text])) :: ((4, some (.cells [li .i64 0, li .i64 0, li .i64 0, li .i64 0, ls ByteArray.empty, li .i64 0, ls ByteArray.empty, li .i64 0, ls ByteArray.empty, li .i64 0, ls ByteArray.empty])) :: ((5, some (.cells [li .i64 a0.ID, li .i64 i1, li .i64 i2, li .i64 a1.F.a0.N, ls a1.F.a0.Text, li .i64 a0.F.a1.N, ls a0.F.a1.Text, li .i64 a0.F.a2.N, ls a0.F.a2.Text, li .i64 a0.F.a3.N, ls a0.F.a3.Text])) :: []))) (by kernel_rfl) (by kernel_rfl) (by kernel_rfl) ?_
      exact F24_u6_ok n a0 a1 i1 i2 a1.F.a0.N a1.F.a0.Text
    · refine Sim.skip ?_
      refine SimE.blockN ?_
      refine SimE.thenN ?_
      refine Sim.region0 ?_
      refine SimI.run 3 [(6, .one (li .i64 1)), (18, .one (li .i64 1)), (17, .one (li .i64 0))] [] (by kernel_rfl) ?_
      refine SimI.done (by kernel_rfl) ?_
      refine SimE.loopN ?_
      refine SimL.pre (ts := [3, 4, 5, 6]) (os := [3, 4, 5]) [(3, .one (.ptr 3 0)), (4, .one (.ptr 4 0)), (5, .one (.ptr 5 0)), (6, .one (li .i64 1))] ((3, some (.cells [li .i64 a1.ID, li .u8 a1.Mask, li .i64 a1.At.X, li .i64 a1.At.Y, li .i64 a1.F.a0.N, ls a1.F.a0.Text, li .i64 a1.F.a1.N, ls a1.F.a1.Text, li .i64 a1.F.a2.N, ls a1.F.a2.Text, li .i64 a1.F.a3.N, ls a1.F.a3.Text])) :: ((4, some (.cells [li .i64 0, li .i64 0, li .i64 0, li .i64 0, ls ByteArray.empty, li .i64 0, ls ByteArray.empty, li .i64 0, ls ByteArray.empty, li .i64 0, ls ByteArray.empty])) :: ((5, some (.cells [li .i64 a0.ID, li .i64 i1, li .i64 i2, li .i64 a0.F.a0.N, ls a0.F.a0.Text, li .i64 a0.F.a1.N, ls a0.F.a1.Text, li .i64 a0.F.a2.N, ls a0.F.a2.Text, li .i64 a0.F.a3.N, ls a0.F.a3.Text])) :: []))) (by kernel_rfl) (by kernel_rfl) (by kernel_rfl) ?_
      exact F24_u6_ok n a0 a1 i1 i2 a0.F.a0.N a0.F.a0.Text

def F24 (n : Nat) (a0 : Thing) (a1 : Delta) : Option Thing :=
  if (bitsI .and .u8 a1.Mask 1) != 0 then
    F24_j3 n a0 a1 a1.At.X a1.At.Y
  else
    F24_j3 n a0 a1 a0.At.X a0.At.Y
theorem F24_ok (n : Nat) (a0 : Thing) (a1 : Delta) : ∀ r, F24 n a0 a1 = some r → D 24 [.agg [li .i64 a0.ID, li .i64 a0.At.X, li .i64 a0.At.Y, li .i64 a0.F.a0.N, ls a0.F.a0.Text, li .i64 a0.F.a1.N, ls a0.F.a1.Text, li .i64 a0.F.a2.N, ls a0.F.a2.Text, li .i64 a0.F.a3.N, ls a0.F.a3.Text], .agg [li .i64 a1.ID, li .u8 a1.Mask, li .i64 a1.At.X, li .i64 a1.At.Y, li .i64 a1.F.a0.N, ls a1.F.a0.Text, li .i64 a1.F.a1.N, ls a1.F.a1.Text, li .i64 a1.F.a2.N, ls a1.F.a2.Text, li .i64 a1.F.a3.N, ls a1.F.a3.Text]] [] = some (F24_e r) := by
  refine fn_to (D := D) (n := n + 8) (nt := 35) (rs := pc24_r) (c := pc24_c32) (L := [(0, .agg [li .i64 a0.ID, li .i64 a0.At.X, li .i64 a0.At.Y, li .i64 a0.F.a0.N, ls a0.F.a0.Text, li .i64 a0.F.a1.N, ls a0.F.a1.Text, li .i64 a0.F.a2.N, ls a0.F.a2.Text, li .i64 a0.F.a3.N, ls a0.F.a3.Text]), (1, .agg [li .i64 a1.ID, li .u8 a1.Mask, li .i64 a1.At.X, li .i64 a1.At.Y, li .i64 a1.F.a0.N, ls a1.F.a0.Text, li .i64 a1.F.a1.N, ls a1.F.a1.Text, li .i64 a1.F.a2.N, ls a1.F.a2.Text, li .i64 a1.F.a3.N, ls a1.F.a3.Text])]) (M := []) (k := 0) rfl rfl rfl rfl rfl rfl ?_
  unfold F24
  refine Sim.seq ?_
  refine Sim.region0 ?_
  refine SimI.run 3 [(4, .one (.ptr 4 0)), (3, .one (.ptr 3 0)), (2, .one (.ptr 2 0))] [(4, some (.cells [li .i64 0, li .i64 0, li .i64 0, li .i64 0, ls ByteArray.empty, li .i64 0, ls ByteArray.empty, li .i64 0, ls ByteArray.empty, li .i64 0, ls ByteArray.empty])), (3, some (.cells [li .i64 a1.ID, li .u8 a1.Mask, li .i64 a1.At.X, li .i64 a1.At.Y, li .i64 a1.F.a0.N, ls a1.F.a0.Text, li .i64 a1.F.a1.N, ls a1.F.a1.Text, li .i64 a1.F.a2.N, ls a1.F.a2.Text, li .i64 a1.F.a3.N, ls a1.F.a3.Text])), (2, some (.cells [li .i64 a0.ID, li .i64 a0.At.X, li .i64 a0.At.Y, li .i64 a0.F.a0.N, ls a0.F.a0.Text, li .i64 a0.F.a1.N, ls a0.F.a1.Text, li .i64 a0.F.a2.N, ls a0.F.a2.Text, li .i64 a0.F.a3.N, ls a0.F.a3.Text]))] (by kernel_rfl) ?_
  refine SimI.done (by kernel_rfl) ?_
  refine SimE.thenN ?_
  refine Sim.seq ?_
  refine Sim.region0 ?_
  refine SimI.run 3 [(5, .one (.ptr 5 0)), (7, .agg [li .i64 a0.ID, li .i64 a0.At.X, li .i64 a0.At.Y, li .i64 a0.F.a0.N, ls a0.F.a0.Text, li .i64 a0.F.a1.N, ls a0.F.a1.Text, li .i64 a0.F.a2.N, ls a0.F.a2.Text, li .i64 a0.F.a3.N, ls a0.F.a3.Text])] [(5, some (.cells [li .i64 a0.ID, li .i64 a0.At.X, li .i64 a0.At.Y, li .i64 a0.F.a0.N, ls a0.F.a0.Text, li .i64 a0.F.a1.N, ls a0.F.a1.Text, li .i64 a0.F.a2.N, ls a0.F.a2.Text, li .i64 a0.F.a3.N, ls a0.F.a3.Text])), (5, some (.cells [li .i64 0, li .i64 0, li .i64 0, li .i64 0, ls ByteArray.empty, li .i64 0, ls ByteArray.empty, li .i64 0, ls ByteArray.empty, li .i64 0, ls ByteArray.empty]))] (by kernel_rfl) ?_
  refine SimI.done (by kernel_rfl) ?_
  refine SimE.thenN ?_
  refine Sim.seq ?_
  refine Sim.seq ?_
  refine Sim.region0 ?_
  refine SimI.run 4 [(11, .one (lb ((bitsI .and .u8 a1.Mask 1) != 0))), (10, .one (li .u8 (bitsI .and .u8 a1.Mask 1))), (9, .one (li .u8 a1.Mask)), (8, .one (.ptr 3 1))] [] (by kernel_rfl) ?_
  refine SimI.done (by kernel_rfl) ?_
  refine SimE.thenN ?_
  refine Sim.cond ((bitsI .and .u8 a1.Mask 1) != 0) (by kernel_rfl) ?_ ?_
  · refine Sim.region0 ?_
    refine SimI.run 4 [(14, .one (.ptr 5 1)), (13, .agg [li .i64 a1.At.X, li .i64 a1.At.Y]), (12, .one (.ptr 3 2))] [(5, some (.cells [li .i64 a0.ID, li .i64 a1.At.X, li .i64 a1.At.Y, li .i64 a0.F.a0.N, ls a0.F.a0.Text, li .i64 a0.F.a1.N, ls a0.F.a1.Text, li .i64 a0.F.a2.N, ls a0.F.a2.Text, li .i64 a0.F.a3.N, ls a0.F.a3.Text]))] (by kernel_rfl) ?_
    refine SimI.done (by kernel_rfl) ?_
    refine SimE.thenN ?_
    refine Sim.pre (ts := [3, 4, 5]) (os := [2, 3, 4, 5]) [(3, .one (.ptr 3 0)), (4, .one (.ptr 4 0)), (5, .one (.ptr 5 0))] ((3, some (.cells [li .i64 a1.ID, li .u8 a1.Mask, li .i64 a1.At.X, li .i64 a1.At.Y, li .i64 a1.F.a0.N, ls a1.F.a0.Text, li .i64 a1.F.a1.N, ls a1.F.a1.Text, li .i64 a1.F.a2.N, ls a1.F.a2.Text, li .i64 a1.F.a3.N, ls a1.F.a3.Text])) :: ((4, some (.cells [li .i64 0, li .i64 0, li .i64 0, li .i64 0, ls ByteArray.empty, li .i64 0, ls ByteArray.empty, li .i64 0, ls ByteArray.empty, li .i64 0, ls ByteArray.empty])) :: ((5, some (.cells [li .i64 a0.ID, li .i64 a1.At.X, li .i64 a1.At.Y, li .i64 a0.F.a0.N, ls a0.F.a0.Text, li .i64 a0.F.a1.N, ls a0.F.a1.Text, li .i64 a0.F.a2.N, ls a0.F.a2.Text, li .i64 a0.F.a3.N, ls a0.F.a3.Text])) :: []))) (by kernel_rfl) (by kernel_rfl) (by kernel_rfl) ?_
    exact F24_j3_ok n a0 a1 a1.At.X a1.At.Y
  · refine Sim.skip ?_
    refine SimE.thenN ?_
    refine Sim.pre (ts := [3, 4, 5]) (os := [2, 3, 4, 5]) [(3, .one (.ptr 3 0)), (4, .one (.ptr 4 0)), (5, .one (.ptr 5 0))] ((3, some (.cells [li .i64 a1.ID, li .u8 a1.Mask, li .i64 a1.At.X, li .i64 a1.At.Y, li .i64 a1.F.a0.N, ls a1.F.a0.Text, li .i64 a1.F.a1.N, ls a1.F.a1.Text, li .i64 a1.F.a2.N, ls a1.F.a2.Text, li .i64 a1.F.a3.N, ls a1.F.a3.Text])) :: ((4, some (.cells [li .i64 0, li .i64 0, li .i64 0, li .i64 0, ls ByteArray.empty, li .i64 0, ls ByteArray.empty, li .i64 0, ls ByteArray.empty, li .i64 0, ls ByteArray.empty])) :: ((5, some (.cells [li .i64 a0.ID, li .i64 a0.At.X, li .i64 a0.At.Y, li .i64 a0.F.a0.N, ls a0.F.a0.Text, li .i64 a0.F.a1.N, ls a0.F.a1.Text, li .i64 a0.F.a2.N, ls a0.F.a2.Text, li .i64 a0.F.a3.N, ls a0.F.a3.Text])) :: []))) (by kernel_rfl) (by kernel_rfl) (by kernel_rfl) ?_
    exact F24_j3_ok n a0 a1 a0.At.X a0.At.Y


end Go.Proofs.Ythmbegagkgdopaa
